/- Some texts in one. -/
import Derived.Test.YtojkkgghndeimaaGreatDoorO29
import Derived.Test.YtojkkgghndeimaaGreatDoorO32
namespace Go.Mq
open Go Go.RowKit
section
variable {P:Program} {ops:Array Oper} {o:Oper} {rest:List Oper} {a:Act} {w:World} {Q:Exit→Act→World→Prop}
theorem wpL_append_when (hw:Region.wanted o (yielded ops a.tmps)=true) (s x:Operand) (t:TypeId)
  (ho : o.op = .call { callee:=.builtin .append,args:=#[s,x],argTypes:=#[t,t] })
  (e:TypeId) (z:Value) (size bytes:Nat) (hi : (P.info? e).map (fun i=>(i.zero,i.size,i.bytes))=some (some z,size,bytes)) (ht:P.underlying t=some (.slice e))
  (hzs : z.cells.size=size) (hsz : 0 < size)
  (v:Value) (n:Nat) (xs:List Value) (hs : a.eval s=v) (hown : w.ownsRow 0 e size v n xs)
  (na:Option Addr) (m c:Nat) (news:List Value) (hx : a.eval x = .slice na m c) (hl : news.length=m * size) (hat:At w na news) (h1 : ∀ u∈news,u.oneCell'=true)
  (hbytes : (n + m) * bytes≤140737488355328) (h63 : n + m≤maxLen)
  (h : ∀ v' w',w'.ownsRow 0 e size v' (n + m) (xs ++ news)→Chg (blk v) w w'→Moved w v v'→wpList P ops Q rest (a.put o.dst v') w') : wpList P ops Q (o :: rest) a w:=by
 obtain ⟨i,hi,hz,hsize,hby⟩:=info_parts hi
 obtain ⟨v',w',hr,h2,h3,h4⟩:=append_whole (P:=P) w 0 t o.type e i z size bytes ht hi hz hsize hby hzs hsz v n xs hown na m c news hl hat h1 h63 hbytes (Nat.zero_le _)
 refine wpList_step fun K hK=>?_
 rw [if_pos hw]
 unfold Oper.wp execOp
 simp only [ho,resolve,invoke,builtin,Sem.run_bind,Sem.run_pure,Result.andThen_ok,List.map_toArray,List.map_cons,List.map_nil,hs,hx,hr]
 exact hK _ _ (h v' w' h2 h3 h4)
end
end Go.Mq
namespace Go.Mq.Plan
open Go Go.RowKit Go.Mq Go.Mq.Tree
theorem putM_len : ∀ (es:List (List UInt8 × Value)) (n:List UInt8) (v:Value),(putM es n v).length≤es.length + 1
 | [],_,_=>by simp [putM]
 | (k,u) :: r,n,v=>by
  rw [putM]
  split
  ·simp
  ·have:=putM_len r n v; simp; omega
theorem putM_keys : ∀ {es:List (List UInt8 × Value)} {n:List UInt8} {v:Value} {p:List UInt8 × Value},p∈putM es n v→p.1=n ∨ ∃ q∈es,p.1=q.1
 | [],n,v,p,h=>by simp [putM] at h; exact .inl (by rw [h])
 | (k,u) :: r,n,v,p,h=>by
  rw [putM] at h
  split at h
  ·next hk=>
   rcases List.mem_cons.1 h with rfl | h
   ·exact .inl hk
   ·exact .inr ⟨p,by simp [h],rfl⟩
  ·rcases List.mem_cons.1 h with rfl | h
   ·exact .inr ⟨(k,u),by simp,rfl⟩
   ·rcases putM_keys h with h | ⟨q,hq,h⟩
    ·exact .inl h
    ·exact .inr ⟨q,by simp [hq],h⟩
theorem ModsAt.made (w:World) (G:Nat→Prop):ModsAt (w.alloc (.map #[] 0)) w.heap.size G (fun _=>none) []:=⟨MapIs.made w,by simp,by simp,fun _=>rfl⟩
theorem named_same {es:List (List UInt8 × Value)} {a b:List Nm} (h:Named es a) (k:Named es b) : a=b:=by
 obtain ⟨s,h1,rfl⟩:=h.perm
 obtain ⟨t,h2,rfl⟩:=k.perm
 exact Used.sort_same (h1.trans h2.symm)
structure Gathered (w:World) (b lo k:Nat) (mf:Nm→Option Mod) (es:List (List UInt8 × Value)):Prop where
 at_:ModsAt w b (fun x=>lo < x∧x < w.heap.size) mf es
 few : es.length≤k
 good:AllGood mf
 well:AllWell mf
theorem Gathered.kept {w w':World} {b lo k:Nat} {mf:Nm→Option Mod} {es:List (List UInt8 × Value)} (h:Gathered w b lo k mf es) (hc:Chg [] w w'):Gathered w' b lo k mf es:=
 ⟨(h.at_.kept hc (by simp) (by simp)).mono fun x hx=>⟨hx.1,by have:=hc.size; omega⟩,h.few,h.good,h.well⟩
theorem Gathered.more {w:World} {b lo k:Nat} {mf:Nm→Option Mod} {es:List (List UInt8 × Value)} (h:Gathered w b lo k mf es):Gathered w b lo (k + 1) mf es:=⟨h.at_,by have:=h.few; omega,h.good,h.well⟩
theorem Gathered.aside {w w':World} {b b' lo k:Nat} {mf:Nm→Option Mod} {es:List (List UInt8 × Value)} (h:Gathered w b lo k mf es) (hc:Chg [b'] w w') (hb : b≠b') (hl : b'≤lo):Gathered w' b lo k mf es:=
 ⟨(h.at_.kept hc (by simpa using hb) (fun x hx hn=>by simp at hx; omega)).mono fun x hx=>⟨hx.1,by have:=hc.size; omega⟩,h.few,h.good,h.well⟩
theorem Gathered.made (w:World) (lo:Nat):Gathered (w.alloc (.map #[] 0)) w.heap.size lo 0 (fun _=>none) []:=
 ⟨ModsAt.made w _,by simp,fun n m h=>(by cases h),fun n m h=>(by cases h)⟩
theorem Gathered.names {w:World} {b lo k:Nat} {mf:Nm→Option Mod} {es:List (List UInt8 × Value)} (h:Gathered w b lo k mf es) : ∀ n,(mf n).isSome=true→(∀ n m,mf n=some m→n≠[])→n≠[]:=fun n hn hx=>by
 obtain ⟨m,hm⟩:=Option.isSome_iff_exists.1 hn
 exact hx n m hm
end Go.Mq.Plan
namespace Go.Proofs.YtojkkgghndeimaaGreatDoor
open Go Go.RowKit Go.Extern.Stop Go.Stop Go.Extern Go.Mq Go.Mq.Tree Go.Mq.Plan
set_option maxRecDepth 100000
set_option maxHeartbeats 4000000
theorem mods_put {w:World} {b:Nat} {G:Nat→Prop} {mf:Nm→Option Mod} {es:List (List UInt8 × Value)} (h:ModsAt w b G mf es) (hG : ¬ G b) (n:Nm) (m:Mod) (v:Value) (hn : n.length≤1000) (hi : m.imports.length≤1000) (he : es.length < 1000) (hv:ModAt w G m v) :
  ∃ w',(Instr.mapUpdate 53 (.map (some b)) (str n) v).run Tryz.prog w = .ok () w'∧ModsAt w' b G (fun x=>if x=n then some m else mf x) (putM es n v)∧Chg [b] w w':=by
 obtain ⟨h1,hl1,hl2,h2⟩:=h
 obtain ⟨w',hr,hm,hc⟩:=run_putM (P:=Tryz.prog) Tryz.underlying53 Tryz.underlying9 h1 n v
 have hS : ∀ x∈[b],¬ G x:=fun x hx=>by simp at hx; subst hx; exact hG
 refine ⟨w',hr,⟨hm,by have:=putM_len es n v; omega,fun p hp=>?_,fun x=>?_⟩,hc⟩
 ·rcases putM_keys hp with h | ⟨q,hq,h⟩
  ·rw [h]; exact hn
  ·rw [h]; exact hl2 q hq
 ·rw [getM_put]
  by_cases hx : x=n
  ·subst hx
   simp only [if_pos]
   exact ⟨hi,v,rfl,hv.kept hc hS⟩
  ·simp only [if_neg hx,if_neg (Ne.symm hx)]
   have:=h2 x
   cases hs : mf x with
   | none=>rw [hs] at this; exact this
   | some m'=>
    rw [hs] at this
    obtain ⟨h5,u',h6,h7⟩:=this
    exact ⟨h5,u',h6,h7.kept hc hS⟩
theorem place_errno (n:Int) (w:World) (hg:ErrLaid w):Calls Tryz.prog 52 #[.iface 32 (.int .i64 n)] w fun e w'=>e = .returned (.tuple #[.int .i64 n,.int .i64 (-1)])∧Chg [] w w':=by
 have HG:=Lib.hid hg; clear hg
 have hU : ∀ v w,(Instr.typeAssert (.iface 32 v) 38 172 true).run Tryz.prog w = .ok (.tuple #[.nilIface,.bool false]) w:=fun v w=>run_typeAssert_lacksB (z:=.nilIface) Tryz.underlying172 (by kernel_rfl) (by kernel_rfl) v 38 w
 have hA : ∀ v w,(Instr.typeAssert (.iface 32 v) 38 167 true).run Tryz.prog w = .ok (.tuple #[.pointer none,.bool false]) w:=fun v w=>by kernel_rfl
 go_enter Tryz.func52,Tryz.ntmps52
 go_wp2_with fail
 refine (tell_errno _ _ HG.out).mono ?_; rintro _ w' ⟨rfl,hc⟩
 have HC:=Lib.hid hc; clear hc
 go_wp2_with fail
 refine wp_loop_rounds 1 ?_
 rw [rounds_succ]
 go_wp2_with fail
 go_ret2
 exact ⟨rfl,HC.out⟩
def errV (n:Int):Value:=if n=0 then .nilIface else .iface 32 (.int .i64 n)
theorem refBare_any (k:Int) (w:World):Calls Tryz.prog 62 #[.int .i64 k] w fun e w'=>e = .returned (.agg #[.int .i64 k,.int .i64 (-1)])∧Chg [] w w':=by
 go_enter Tryz.func62,Tryz.ntmps62
 go_wp2_with fail
 refine bodyPost_ret (v:=.agg #[.int .i64 k,.int .i64 (-1)]) (by simp [results,Tryz.results62,go_sem]) rfl ⟨rfl,(Chg.refl [] w).alloc _⟩
theorem isb_any (e k at_:Int) (n p:Int) (v:Value) (w:World) (hp:Calls Tryz.prog 52 #[v] (w.alloc (.cells #[.int .i64 k,.int .i64 at_] 34)) fun e w'=>e = .returned (.tuple #[.int .i64 n,.int .i64 p])∧Chg [] (w.alloc (.cells #[.int .i64 k,.int .i64 at_] 34)) w') :
  Calls Tryz.prog 11 #[v,.agg #[.int .i64 k,.int .i64 at_]] w fun e w'=>e = .returned (.bool (decide (n=k) && decide (p=at_)))∧Chg [] w w':=by
 have HP:=Lib.hid hp; clear hp
 by_cases h1 : n=k
 all_goals by_cases h2 : p=at_
 all_goals
  go_enter Tryz.func11,Tryz.ntmps11
  go_wp2_with fail
  refine HP.out.mono ?_; rintro _ w' ⟨rfl,hc⟩
  have c0 : w'.cell? ⟨w.heap.size,0,none⟩=some (.int .i64 k):=hc.cellSome (by simp) (by simp)
  have c1 : w'.cell? ⟨w.heap.size,1,none⟩=some (.int .i64 at_):=hc.cellSome (by simp) (by simp)
  have hc2:Chg [] w w':=((Chg.refl [] w).alloc _).then hc
  have HC:=Lib.hid hc2; clear hc hc2
  go_wp2_with fail
  go_ret
  refine ⟨?_,HC.out⟩
  simp [h1,h2]
theorem place_any (n:Int) (w:World) (hg:ErrLaid w):Calls Tryz.prog 52 #[errV n] w fun e w'=>e = .returned (.tuple #[.int .i64 n,.int .i64 (-1)])∧Chg [] w w':=by
 unfold errV
 by_cases hn : n=0
 ·rw [if_pos hn,hn]
  refine (place_nil w).mono ?_; rintro _ _ ⟨rfl,rfl⟩; exact ⟨rfl,Chg.refl _ _⟩
 ·rw [if_neg hn]
  exact place_errno n w hg
theorem bare_any (n k:Int) (w:World) (hg:ErrLaid w):Calls Tryz.prog 21 #[errV n,.int .i64 k] w fun e w'=>e = .returned (.bool (decide (n=k)))∧Chg [] w w':=by
 have HG:=Lib.hid hg; clear hg
 generalize hv : errV n=v
 have HV:=Lib.hid hv; clear hv
 go_enter Tryz.func21,Tryz.ntmps21
 go_wp2_with fail
 refine (refBare_any k w).mono ?_; rintro _ w1 ⟨rfl,hc⟩
 have HC:=Lib.hid hc; clear hc
 go_wp2_with fail
 refine (isb_any 0 k (-1) n (-1) v w1 ?_).mono ?_
 ·rw [← HV.out]
  exact place_any n _ ((HG.out.kept HC.out (by simp)).kept ((Chg.refl [] w1).alloc _) (by simp))
 rintro _ w2 ⟨rfl,hc2⟩
 have HC2:=Lib.hid (HC.out.then hc2); clear hc2
 go_wp2_with fail
 go_ret
 refine ⟨?_,HC2.out⟩
 simp
theorem gath_add {w:World} {b lo k:Nat} {mf:Nm→Option Mod} {es:List (List UInt8 × Value)} (h:Gathered w b lo k mf es) (hb : b≤lo) (hk : k≤100) {t:List UInt8} {m:Mod} (ht : t.length≤900) (hp : parse t = .ok m) (v:Value) (hv:ModAt w (fun x=>lo < x∧x < w.heap.size) m v) :
  ∃ w' es',(Instr.mapUpdate 53 (.map (some b)) (str m.name) v).run Tryz.prog w = .ok () w'∧Hid (Gathered w' b lo (k + 1) (fun x=>if x=m.name then some m else mf x) es')∧Hid (Chg [b] w w'):=by
 obtain ⟨hw,hm⟩:=parse_sp hp
 have hn:=hw.name.2.2
 have hi:=hw.few
 have hf:=h.few
 obtain ⟨w',hr,hmo,hc⟩:=mods_put h.at_ (fun hx=>by have:=hx.1; omega) m.name m v (by omega) (by omega) (by omega) hv
 refine ⟨w',_,hr,Lib.hid ⟨hmo.mono fun x hx=>⟨hx.1,by have:=hc.size; omega⟩,by have:=putM_len es m.name v; omega,fun n x hx=>?_,fun n x hx=>?_⟩,Lib.hid hc⟩
 ·by_cases hnn : n=m.name
  ·rw [if_pos hnn] at hx; cases hx; exact good_of (by omega) hp
  ·rw [if_neg hnn] at hx; exact h.good n x hx
 ·by_cases hnn : n=m.name
  ·rw [if_pos hnn] at hx; cases hx; exact ⟨hw,by omega⟩
  ·rw [if_neg hnn] at hx; exact h.well n x hx
end Go.Proofs.YtojkkgghndeimaaGreatDoor
