/- Some texts in one. -/
import Derived.Test.YtilhhkokdfajiaaGreatDoorI6
namespace Go.Mq
open Go Go.RowKit
section
variable {P:Program}
theorem append_none (w:World) (base:Nat) (t ty e:TypeId) (i:TypeInfo) (size:Nat) (ht:P.underlying t=some (.slice e)) (hi:P.info? e=some i) (hsize : i.size=size)
  (v:Value) (n:Nat) (xs:List Value) (hown : w.ownsRow base e size v n xs) (c:Nat) : (Builtin.append_ #[t,t] ty #[v,.slice none 0 c]).run P w = .ok v w:=by
 subst hsize
 rcases hown.2 with ⟨rfl,rfl⟩ | ⟨g,cap,cur,rfl,hbg,hg,hnc,hcm,hcs,htake⟩
 ·simp [Builtin.append_,run_underlying ht,sizeOf,typeInfo,hi,Builtin.lenOf,Builtin.firstCells]
 ·simp [Builtin.append_,run_underlying ht,sizeOf,typeInfo,hi,Builtin.lenOf,Builtin.firstCells,loadCells,hnc,storeCells]
theorem append_whole (w:World) (base:Nat) (t ty e:TypeId) (i:TypeInfo) (z:Value) (size bytes:Nat) (ht:P.underlying t=some (.slice e)) (hi:P.info? e=some i) (hz : i.zero=some z)
  (hsize : i.size=size) (hby : i.bytes=bytes) (hzs : z.cells.size=size) (hsz : 0 < size)
  (v:Value) (n:Nat) (xs:List Value) (hown : w.ownsRow base e size v n xs)
  (na:Option Addr) (m c:Nat) (news:List Value) (hl : news.length=m * size) (hat:At w na news) (h1 : ∀ u∈news,u.oneCell'=true)
  (h63 : n + m≤maxLen) (hbytes : (n + m) * bytes≤140737488355328) (hbase : base≤w.heap.size) :
  ∃ v' w',(Builtin.append_ #[t,t] ty #[v,.slice na m c]).run P w = .ok v' w'∧w'.ownsRow base e size v' (n + m) (xs ++ news)∧Chg (blk v) w w'∧Moved w v v':=by
 cases na with
 | some ad=>
  refine append_slice w base t ty e i z size bytes ht hi hz hsize hby hzs hsz v n xs hown ad m c news hl (fun j u hj=>?_) h1 h63 hbytes hbase
  obtain ⟨b,off,he,hc⟩:=hat (by have:=(List.getElem?_eq_some_iff.1 hj).1; omega)
  cases he
  have h:=hc j u hj
  by_cases hj0 : j=0
  ·subst hj0; simpa [Addr.add] using h
  ·simpa [Addr.add,hj0] using h
 | none=>
  have hn : news=[]:=by
   rcases Nat.eq_zero_or_pos news.length with h | h
   ·exact List.eq_nil_of_length_eq_zero h
   ·obtain ⟨b,off,he,_⟩:=hat h; cases he
  subst hn
  have hm : m=0:=by
   rcases Nat.mul_eq_zero.1 (show m * size=0 by simpa using hl.symm) with h | h
   ·exact h
   ·omega
  subst hm
  exact ⟨v,w,append_none w base t ty e i size ht hi hsize v n xs hown c,by simpa using hown,Chg.refl _ _,Moved.refl _ _⟩
variable {ops:Array Oper} {o:Oper} {rest:List Oper} {a:Act} {w:World} {Q:Exit→Act→World→Prop} {E:Oper→Bool} {S:World→Prop} {R:Act→World→Prop}
theorem wpL_append_any (hgd : o.guard=none) (s x:Operand) (t:TypeId)
  (ho : o.op = .call { callee:=.builtin .append,args:=#[s,x],argTypes:=#[t,t] })
  (e:TypeId) (z:Value) (size bytes:Nat) (hi : (P.info? e).map (fun i=>(i.zero,i.size,i.bytes))=some (some z,size,bytes)) (ht:P.underlying t=some (.slice e))
  (hzs : z.cells.size=size) (hsz : 0 < size)
  (v:Value) (n:Nat) (xs:List Value) (hs : a.eval s=v) (hown : w.ownsRow 0 e size v n xs)
  (na:Option Addr) (m c:Nat) (news:List Value) (hx : a.eval x = .slice na m c) (hl : news.length=m * size) (hat:At w na news) (h1 : ∀ u∈news,u.oneCell'=true)
  (hbytes : (n + m) * bytes≤140737488355328) (h63 : n + m≤maxLen)
  (h : ∀ v' w',w'.ownsRow 0 e size v' (n + m) (xs ++ news)→Chg (blk v) w w'→Moved w v v'→wpList P ops Q rest (a.put o.dst v') w') : wpList P ops Q (o :: rest) a w:=by
 obtain ⟨i,hi,hz,hsize,hby⟩:=info_parts hi
 obtain ⟨v',w',hr,h2,h3,h4⟩:=append_whole (P:=P) w 0 t o.type e i z size bytes ht hi hz hsize hby hzs hsz v n xs hown na m c news hl hat h1 h63 hbytes (Nat.zero_le _)
 refine wpList_plain hgd fun K hK=>?_
 unfold Oper.wp execOp
 simp only [ho,resolve,invoke,builtin,Sem.run_bind,Sem.run_pure,Result.andThen_ok,List.map_toArray,List.map_cons,List.map_nil,hs,hx,hr]
 exact hK _ _ (h v' w' h2 h3 h4)
theorem wpX_append_any (s x:Operand) (t:TypeId)
  (ho : o.op = .call { callee:=.builtin .append,args:=#[s,x],argTypes:=#[t,t] }) (hE:E o=true) (hw:Region.wanted o (yielded ops a.tmps)=true)
  (e:TypeId) (z:Value) (size bytes:Nat) (hi : (P.info? e).map (fun i=>(i.zero,i.size,i.bytes))=some (some z,size,bytes)) (ht:P.underlying t=some (.slice e))
  (hzs : z.cells.size=size) (hsz : 0 < size)
  (v:Value) (n:Nat) (xs:List Value) (hs : a.eval s=v) (hown : w.ownsRow 0 e size v n xs)
  (na:Option Addr) (m c:Nat) (news:List Value) (hx : a.eval x = .slice na m c) (hl : news.length=m * size) (hat:At w na news) (h1 : ∀ u∈news,u.oneCell'=true)
  (hbytes : (n + m) * bytes≤140737488355328) (h63 : n + m≤maxLen)
  (h : ∀ v' w',w'.ownsRow 0 e size v' (n + m) (xs ++ news)→Chg (blk v) w w'→Moved w v v'→S w'∧wpX P ops E S R rest (a.put o.dst v') w') : wpX P ops E S R (o :: rest) a w:=by
 refine .inr ⟨hE,hw,?_⟩
 obtain ⟨i,hi,hz,hsize,hby⟩:=info_parts hi
 obtain ⟨v',w',hr,h2,h3,h4⟩:=append_whole (P:=P) w 0 t o.type e i z size bytes ht hi hz hsize hby hzs hsz v n xs hown na m c news hl hat h1 h63 hbytes (Nat.zero_le _)
 unfold Oper.wp execOp
 simp only [ho,resolve,invoke,builtin,Sem.run_bind,Sem.run_pure,Result.andThen_ok,List.map_toArray,List.map_cons,List.map_nil,hs,hx,hr]
 exact h v' w' h2 h3 h4
end
end Go.Mq
