/- Some texts in one. -/
import Derived.Lib.SliceRun
import Derived.Test.YtilhhkokdfajiaaGreatDoorI14
import Derived.Test.YtilhhkokdfajiaaGreatDoorI15
namespace Go.Mq.Check
open Go Go.RowKit Go.Mq Go.Mq.Tree Go.Mq.Sym
def RowsBlk (w:World) (g:Nat) (t:TypeId) (d:Nat) (rs:List (List Value)):Prop:=∃ cur,Blk w g cur t∧rs.length * d≤cur.size ∧ ∀ k r,rs[k]?=some r→r.length=d ∧ ∀ i v,r[i]?=some v→cur[k * d + i]?=some v
section
variable {w w':World} {g d:Nat} {t:TypeId} {rs:List (List Value)}
theorem RowsBlk.kept {S:List Nat} (h:RowsBlk w g t d rs) (hc:Chg S w w') (hn : g∉S):RowsBlk w' g t d rs:=by
 obtain ⟨cur,hb,hs,hc'⟩:=h
 exact ⟨cur,hb.kept hc hn,hs,hc'⟩
theorem RowsBlk.lt (h:RowsBlk w g t d rs) : g < w.heap.size:=by
 obtain ⟨cur,hb,_,_⟩:=h
 exact hb.lt
theorem RowsBlk.frozen (h:RowsBlk w g t d rs) (i:Nat) : w.frozen? ⟨g,i,none⟩=false:=by
 obtain ⟨cur,hb,_,_⟩:=h
 exact hb.frozen i
theorem RowsBlk.cell (h:RowsBlk w g t d rs) {k:Nat} {r:List Value} (hk : rs[k]?=some r) {i:Nat} {v:Value} (hi : r[i]?=some v) : w.cell? ⟨g,k * d + i,none⟩=some v:=by
 obtain ⟨cur,hb,_,hc⟩:=h
 exact hb.cell _ _ ((hc k r hk).2 i v hi)
theorem flat_at {d:Nat} : ∀ {rs:List (List Value)} {k:Nat} {r:List Value},(∀ r∈rs,r.length=d)→rs[k]?=some r → ∀ i v,r[i]?=some v→rs.flatten[k * d + i]?=some v
 | [],_,_,_,hk,_,_,_=>by simp at hk
 | y :: rs,0,r,hd,hk,i,v,hi=>by
  simp at hk; subst hk
  have hl:=(List.getElem?_eq_some_iff.1 hi).1
  rw [List.flatten_cons,Nat.zero_mul,Nat.zero_add,List.getElem?_append_left hl]
  exact hi
 | y :: rs,k + 1,r,hd,hk,i,v,hi=>by
  have hy:=hd y (by simp)
  rw [List.flatten_cons,List.getElem?_append_right (by rw [hy,Nat.add_mul]; omega),hy,show (k + 1) * d + i - d=k * d + i by rw [Nat.add_mul]; omega]
  exact flat_at (fun r hr=>hd r (by simp [hr])) (by simpa using hk) i v hi
theorem flat_len {d:Nat} : ∀ {rs:List (List Value)},(∀ r∈rs,r.length=d)→rs.flatten.length=rs.length * d
 | [],_=>by simp
 | y :: rs,hd=>by rw [List.flatten_cons,List.length_append,flat_len (fun r hr=>hd r (by simp [hr])),hd y (by simp),List.length_cons,Nat.add_mul]; omega
theorem flat_inv {d:Nat} (hd0 : 0 < d) {rs:List (List Value)} (hd : ∀ r∈rs,r.length=d) {i:Nat} {v:Value} (h : rs.flatten[i]?=some v) : ∃ r,rs[i / d]?=some r∧r[i % d]?=some v:=by
 have hl:=(List.getElem?_eq_some_iff.1 h).1
 rw [flat_len hd] at hl
 have hk : i / d < rs.length:=by rw [Nat.div_lt_iff_lt_mul hd0]; exact hl
 have hr : rs[i / d]?=some rs[i / d]:=List.getElem?_eq_getElem hk
 have hrd:=hd _ (List.getElem_mem hk)
 have hm : i % d < (rs[i / d]).length:=by rw [hrd]; exact Nat.mod_lt _ hd0
 refine ⟨_,hr,?_⟩
 have:=flat_at hd hr (i % d) _ (List.getElem?_eq_getElem hm)
 rw [show i / d * d + i % d=i by rw [Nat.mul_comm]; exact Nat.div_add_mod i d,h] at this
 rw [List.getElem?_eq_getElem hm]
 exact this.symm
theorem RowsBlk.row {F:Nat→Prop} (h:RowsBlk w g t d rs) (hd0 : 0 < d) (hd : ∀ r∈rs,r.length=d) (hF:F g):Row w F (some ⟨g,0,none⟩) rs.flatten:=by
 refine ⟨fun _=>⟨g,0,rfl,fun i v hv=>?_⟩,fun _ p hp=>by cases hp; exact hF⟩
 obtain ⟨r,hr,hi⟩:=flat_inv hd0 hd hv
 have:=h.cell hr hi
 rw [show i / d * d + i % d=i by rw [Nat.mul_comm]; exact Nat.div_add_mod i d] at this
 rw [Nat.zero_add]; exact this
theorem rows_of_owns {v:Value} (h : w.ownsRow 0 t d v rs.length rs.flatten) (hd : ∀ r∈rs,r.length=d) : (v=nils∧rs=[]) ∨ ∃ g c,v = .slice (some ⟨g,0,none⟩) rs.length c∧rs.length≤c∧RowsBlk w g t d rs:=by
 rcases h.2 with ⟨rfl,hn⟩ | ⟨g,cap,cur,rfl,_,hg,hnc,_,hcs,htake⟩
 ·exact .inl ⟨rfl,List.eq_nil_of_length_eq_zero hn⟩
 ·refine .inr ⟨g,cap,rfl,hnc,cur,hg,by rw [hcs]; exact Nat.mul_le_mul_right _ hnc,fun k r hk=>⟨hd r (List.mem_of_getElem? hk),fun i v hi=>?_⟩⟩
  have h1:=flat_at hd hk i v hi
  rw [← htake] at h1
  rw [List.getElem?_take] at h1
  split at h1
  ·simpa using h1
  ·cases h1
theorem RowsBlk.put3 (h:RowsBlk w g t 3 rs) (k:Nat) (hk : k < rs.length) (v0 v1 v2:Value):RowsBlk (((w.setCell ⟨g,k * 3,none⟩ v0).setCell ⟨g,k * 3 + 1,none⟩ v1).setCell ⟨g,k * 3 + 2,none⟩ v2) g t 3 (rs.set k [v0,v1,v2]):=by
 obtain ⟨cur,hb,hs,hc⟩:=h
 refine ⟨_,((hb.set _ _).set _ _).set _ _,by simpa using hs,fun i r hi=>?_⟩
 by_cases he : i=k
 ·subst he
  rw [List.getElem?_set_self hk] at hi
  cases hi
  refine ⟨rfl,fun j v hj=>?_⟩
  have hj6 : j < 3:=(List.getElem?_eq_some_iff.1 hj).1
  have hz : i * 3 + 3≤cur.size:=by omega
  have h0 : i * 3 + 0 < cur.size:=by omega
  have h1 : i * 3 + 1 < cur.size:=by omega
  have h2 : i * 3 + 2 < cur.size:=by omega
  match j,hj6,hj with
  | 0,_,hj=>simp at hj; subst hj; simp [show i * 3 < cur.size by omega]
  | 1,_,hj=>simp at hj; subst hj; simp [h1]
  | 2,_,hj=>simp at hj; subst hj; simp [h2]
 ·rw [List.getElem?_set_ne (Ne.symm he)] at hi
  obtain ⟨hl,hcc⟩:=hc i r hi
  refine ⟨hl,fun j v hj=>?_⟩
  have hj6 : j < 3:=by have:=(List.getElem?_eq_some_iff.1 hj).1; omega
  rw [Array.getElem?_setIfInBounds_ne (by omega),Array.getElem?_setIfInBounds_ne (by omega),Array.getElem?_setIfInBounds_ne (by omega)]
  exact hcc j v hj
theorem put3_chg (w:World) (g k:Nat) (v0 v1 v2:Value):Chg [g] w (((w.setCell ⟨g,k * 3,none⟩ v0).setCell ⟨g,k * 3 + 1,none⟩ v1).setCell ⟨g,k * 3 + 2,none⟩ v2):=
 ((Chg.set1 _ _ _ _).then (Chg.set1 _ _ _ _)).then (Chg.set1 _ _ _ _)
theorem RowsBlk.tail {vs:List Value} (h:RowsBlk w g t 3 rs) : ∀ (o:Nat) {i:Nat},i≤rs.length→i * 3≤o→RowsBlk (w.setCells g o vs) g t 3 (rs.take i)∧Chg [g] w (w.setCells g o vs):=by
 induction vs generalizing w rs with
 | nil=>
  intro o i hi _
  obtain ⟨cur,hb,hs,hc⟩:=h
  refine ⟨⟨cur,hb,by rw [List.length_take]; have : min i rs.length * 3≤rs.length * 3:=Nat.mul_le_mul_right _ (Nat.min_le_right _ _); omega,fun k r hk=>?_⟩,Chg.refl _ _⟩
  rw [List.getElem?_take] at hk
  split at hk
  ·exact hc k r hk
  ·cases hk
 | cons v vs ih=>
  intro o i hi ho
  obtain ⟨cur,hb,hs,hc⟩:=h
  have h2:RowsBlk (w.setCell ⟨g,o,none⟩ v) g t 3 (rs.take i):=by
   refine ⟨_,hb.set o v,by rw [List.length_take]; have : min i rs.length * 3≤rs.length * 3:=Nat.mul_le_mul_right _ (Nat.min_le_right _ _); simp; omega,fun k r hk=>?_⟩
   rw [List.getElem?_take] at hk
   split at hk
   ·next hki=>
    obtain ⟨hl,hcc⟩:=hc k r hk
    refine ⟨hl,fun j u hj=>?_⟩
    have hj3 : j < 3:=by have:=(List.getElem?_eq_some_iff.1 hj).1; omega
    rw [Array.getElem?_setIfInBounds_ne (by omega)]
    exact hcc j u hj
   ·cases hk
  have:=ih h2 (o + 1) (i:=i) (by rw [List.length_take]; omega) (by omega)
  rw [List.take_take,Nat.min_self] at this
  exact ⟨this.1,(Chg.set1 _ _ _ _).then this.2⟩
end
theorem run_clear3 {P:Program} (w:World) (t e:TypeId) (z:Value) (ht:P.underlying t=some (.slice e)) (hv : ∀ w,(zeroValue e).run P w = .ok z w) (z0 z1 z2:Value) (hz : z.cells = #[z0,z1,z2]) (h1 : z0.oneCell'=true∧z1.oneCell'=true∧z2.oneCell'=true) (b o n c:Nat) (hn : 0 < n)
  (hc : ∀ j,j < n * 3→(w.cell? ⟨b,o + j,none⟩).isSome=true) (hf : ∀ j,j < n * 3→w.frozen? ⟨b,o + j,none⟩=false) :
  ∃ vs:List Value,∀ ty,(Builtin.clear_ #[t] ty #[.slice (some ⟨b,o,none⟩) n c]).run P w = .ok (.tuple #[]) (w.setCells b o vs):=by
 refine ⟨(Builtin.zeroCells z.cells n).toList,fun ty=>?_⟩
 have hlen : (Builtin.zeroCells z.cells n).toList.length=n * 3:=by
  rw [hz]; simp [Builtin.zeroCells]
 have hall : ∀ v∈(Builtin.zeroCells z.cells n).toList,v.oneCell'=true:=by
  intro v hv'
  rw [hz] at hv'
  simp only [Builtin.zeroCells,Array.toList_map,List.mem_map] at hv'
  obtain ⟨i,_,rfl⟩:=hv'
  have hi : i % 3 < 3:=Nat.mod_lt _ (by omega)
  have h3 : i % 3=0∨i % 3=1∨i % 3=2:=by omega
  rcases h3 with h | h | h <;> simp [h,h1]
 have hst:=run_storeCells_cells (P:=P) b o (Builtin.zeroCells z.cells n).toList 0 w (by rw [hlen]; simpa using hc) (by rw [hlen]; simpa using hf) hall
 simp only [Nat.add_zero] at hst
 obtain ⟨m,rfl⟩ : ∃ m,n=m + 1:=⟨n - 1,by omega⟩
 simp [Builtin.clear_,run_underlying ht,hv,hst]
end Go.Mq.Check
namespace Go.Mq.Check
open Go Go.RowKit Go.Mq Go.Mq.Tree Go.Mq.Sym
def First1 {α:Type} (l:List α) (f : α→Bool) (e:Ending):Prop:=(e = .returned (.int .i64 (-1)) ∧ ∀ x∈l,f x=false) ∨ ∃ (k:Nat) (x : α),e = .returned (.int .i64 k)∧l[k]?=some x∧f x=true ∧ ∀ y∈l.take k,f y=false
theorem three_of : ∀ {r:List Value},r.length=3 → ∃ a b c,r=[a,b,c]
 | [a,b,c],_=>⟨a,b,c,rfl⟩
theorem take_more {α:Type} {l:List α} {k:Nat} {x : α} (h : l[k]?=some x) : l.take (k + 1)=l.take k ++ [x]:=by
 rw [List.take_add_one,h]; rfl
theorem cells3_len {l:List Sy} : ∀ r∈l.map Sy.cells,r.length=3:=fun r hr=>by
 obtain ⟨x,_,rfl⟩:=List.mem_map.1 hr
 rfl
end Go.Mq.Check
namespace Go.Proofs.YtilhhkokdfajiaaGreatDoor
open Go Go.RowKit Go.Mq Go.Mq.Tree Go.Mq.Sym Go.Mq.Check
set_option maxRecDepth 100000
set_option maxHeartbeats 4000000
theorem clone_any (l:List Sy) (hl : l.length≤1000) (F:Nat→Prop) (v:Value) (w:World) (h:SymsAt w F l v) :
  Calls Tryz.prog 11 #[v] w (fun e w'=>∃ v',e = .returned v'∧w'.ownsRow 0 41 3 v' l.length (l.flatMap Sy.cells)∧From w.heap.size v'∧Chg [] w w'):=by
 obtain ⟨a,c,rfl,hac,hrow,hnil⟩:=h
 have hat:=hrow.at_
 cases a with
 | none=>
  have hc0:=hnil rfl
  subst hc0
  have hl0 : l=[]:=List.eq_nil_of_length_eq_zero (by omega)
  subst hl0
  clear hrow hat
  have hne : ∀ w,(binOp BinOp.eql 38 (.slice none 0 0) (.slice none 0 0)).run Tryz.prog w = .ok (.bool true) w:=fun _=>rfl
  change Calls _ _ #[.slice none 0 0] _ _
  go_enter Tryz.func11,Tryz.ntmps11
  go_wp2_with fail
  go_ret
  exact ⟨_,rfl,World.ownsRow_nil _ _ _ _,From.nil _,Chg.refl _ _⟩
 | some p=>
  have hne : ∀ w,(binOp BinOp.eql 38 (.slice (some p) l.length c) (.slice none 0 0)).run Tryz.prog w = .ok (.bool false) w:=fun _=>rfl
  have hown : (w.alloc (.cells #[] 41)).ownsRow 0 41 3 (.slice (some ⟨w.heap.size,0,none⟩) 0 0) 0 []:=⟨rfl,.inr ⟨w.heap.size,0,#[],rfl,Nat.zero_le _,heap_alloc_new w _,Nat.le_refl _,Nat.zero_le _,rfl,rfl⟩⟩
  have HOWN:=Lib.hid hown
  have hca:Chg [] w (w.alloc (.cells #[] 41)):=(Chg.refl _ _).alloc _
  have HAT:=Lib.hid ((hrow.kept hca (by simp)).at_)
  have HCA:=Lib.hid hca
  clear hrow hat hown hca
  go_enter Tryz.func11,Tryz.ntmps11
  go_wp2_with (at_builtin; go_must (refine wpL_append_any rfl _ _ 38 rfl 41 _ 3 32 infoSym Tryz.underlying38 rfl (by decide) _ 0 [] rfl HOWN.out (some p) l.length c (l.flatMap Sy.cells) rfl ?_ HAT.out ?_ ?_ ?_ ?_))
  ·exact flat3 l
  ·intro u hu
   simp only [List.mem_flatMap,Sy.cells] at hu
   obtain ⟨x,_,hu⟩:=hu
   simp at hu
   rcases hu with rfl | rfl | rfl <;> rfl
  ·omega
  ·unfold maxLen; omega
  ·intro v' w' hown' hch' hmv'
   have HO:=Lib.hid (show w'.ownsRow 0 41 3 v' l.length (l.flatMap Sy.cells) by simpa using hown')
   have hf:From w.heap.size v':=fun g hg=>by
    rcases hmv' g hg with h1 | h1
    ·simp [blk] at h1; omega
    ·simp at h1; omega
   have HF:=Lib.hid hf
   have HC:=Lib.hid (HCA.out.trans hch' (fun x hx=>.inr (by simp [blk] at hx; omega)))
   clear hown' hch' hmv' hf
   go_wp2_with fail
   go_ret
   exact ⟨_,rfl,HO.out,HF.out,HC.out⟩
theorem index_sym (cs:Array Value) (fid:FuncId) (hF : ∀ (args:Array Value) (w:World),(callFunc fid args).run Tryz.prog w = .ok (.enter fid args) w) (l:List Sy) (hl : l.length≤1000) (f:Sy→Bool) (a:Option Addr) (c:Nat) (F:Nat→Prop) (w:World) (h:Row w F a (l.flatMap Sy.cells)) (hlc : l.length≤c)
  (hf : ∀ x∈l,∀ w',Chg [] w w'→Calls Tryz.prog fid (#[(.agg #[str x.name,.int .i64 x.len,.int .i64 x.args] : Value)] ++ cs) w' (fun e w''=>e = .returned (.bool (f x))∧Chg [] w' w'')) :
  Calls Tryz.prog 30 #[.slice a l.length c,.func (.func fid) #[] cs] w (fun e w'=>First1 l f e∧Chg [] w w'):=by
 have HA:=Lib.hid h; have HF:=Lib.hid hf
 clear h hf
 go_enter Tryz.func30,Tryz.ntmps30
 go_wp2_with fail
 go_loopw [5,8] (fun _ i wr=>∃ k:Nat,i = .int .i64 k∧k≤l.length∧(∀ y∈l.take k,f y=false)∧Chg [] w wr) (fun _ i _=>l.length - (intOf i).toNat)
 case atStart=>exact ⟨0,rfl,Nat.zero_le _,by simp,Chg.refl _ _⟩
 case round=>
  obtain ⟨k,rfl,hk,hno,hc⟩:=hrel
  have HNO:=Lib.hid hno; have HC:=Lib.hid hc
  clear hno hc
  by_cases hlt : k < l.length
  rotate_left
  ·go_wp2_with fail
   go_ret
   exact ⟨.inl ⟨rfl,by have:=HNO.out; rwa [List.take_of_length_le (by omega)] at this⟩,HC.out⟩
  obtain ⟨x,hx⟩ : ∃ x,l[k]?=some x:=⟨l[k],List.getElem?_eq_getElem hlt⟩
  obtain ⟨bb,off,rfl,d0,d1,d2⟩:=sy_cells3 (HA.out.kept HC.out (by simp)) hx
  have HI:=Lib.hid (HF.out x (List.mem_of_getElem? hx) wr HC.out)
  have HX:=Lib.hid hx
  obtain ⟨q,hq⟩ : ∃ q,q=f x:=⟨_,rfl⟩
  rw [← hq] at HI
  have HB:=Lib.hid hq.symm
  clear hx hq
  go_wp2_with fail
  refine HI.out.mono ?_; rintro _ w2 ⟨rfl,hq⟩
  have HQ:=Lib.hid (HC.out.then hq)
  clear hq
  cases q with
  | false=>
   go_wp2_with fail
   exact ⟨⟨k + 1,by go_num,by omega,fun y hy=>by
    rw [take_more HX.out] at hy
    rcases List.mem_append.1 hy with h | h
    ·exact HNO.out y h
    ·simp at h; subst h; exact HB.out,HQ.out⟩,by simp [intOf]; omega⟩
  | true=>
   go_wp2_with fail
   go_ret
   exact ⟨.inr ⟨k,x,rfl,HX.out,HB.out,HNO.out⟩,HQ.out⟩
theorem zero_sym (w:World) : (zeroValue 41).run Tryz.prog w = .ok (.agg #[str [],.int .i64 0,.int .i64 0]) w:=by kernel_rfl
theorem delete_sym (cs:Array Value) (fid:FuncId) (hF : ∀ (args:Array Value) (w:World),(callFunc fid args).run Tryz.prog w = .ok (.enter fid args) w) (l:List Sy) (hl : l.length≤1000) (f:Sy→Bool) (g c:Nat) (w:World) (h:RowsBlk w g 41 3 (l.map Sy.cells)) (hlc : l.length≤c)
  (hf : ∀ x∈l,∀ w',Chg [g] w w'→Calls Tryz.prog fid (#[(.agg #[str x.name,.int .i64 x.len,.int .i64 x.args] : Value)] ++ cs) w' (fun e w''=>e = .returned (.bool (f x))∧Chg [] w' w'')) :
  Calls Tryz.prog 10 #[.slice (some ⟨g,0,none⟩) l.length c,.func (.func fid) #[] cs] w (fun e w'=>e = .returned (.slice (some ⟨g,0,none⟩) (l.filter fun x=>!f x).length c)∧RowsBlk w' g 41 3 ((l.filter fun x=>!f x).map Sy.cells)∧Chg [g] w w'):=by
 have hrow:=h.row (F:=fun y=>y=g) (by omega) (fun r hr=>cells3_len r hr) rfl
 rw [show (l.map Sy.cells).flatten=l.flatMap Sy.cells by rw [List.flatMap_def]] at hrow
 have HIX:=Lib.hid (index_sym cs fid hF l hl f (some ⟨g,0,none⟩) c _ w hrow hlc (fun x hx w' hc=>hf x hx w' hc.weak))
 have HB:=Lib.hid h; have HF:=Lib.hid hf
 clear h hf hrow
 go_enter Tryz.func10,Tryz.ntmps10
 go_wp2_with fail
 refine HIX.out.mono ?_; rintro e w1 ⟨h1,hc1⟩
 have HC1:=Lib.hid hc1
 clear hc1
 rcases h1 with ⟨rfl,hno⟩ | ⟨k0,x0,rfl,hx0,hf0,hbe⟩
 ·have HNO:=Lib.hid hno
  clear hno
  go_wp2_with fail
  go_ret
  have hfl : l.filter (fun x=>!f x)=l:=List.filter_eq_self.2 fun x hx=>by rw [HNO.out x hx]; rfl
  rw [hfl]
  exact ⟨rfl,HB.out.kept HC1.out (by simp),HC1.out.weak⟩
 have hk0 : k0 < l.length:=(List.getElem?_eq_some_iff.1 hx0).1
 have HST:=Lib.hid (show ((l.map Sy.cells).take k0)=((l.take (k0 + 1)).filter fun x=>!f x).map Sy.cells by
  rw [take_more hx0,List.filter_append,List.filter_cons,hf0]
  have : (l.take k0).filter (fun x=>!f x)=l.take k0:=List.filter_eq_self.2 fun x hx=>by rw [hbe x hx]; rfl
  simp [this,List.map_take])
 have hkm : ((k0:Int) == -1)=false:=by simp <;> omega
 clear hx0 hf0 hbe
 go_wp2_with fail
 go_loopw [5,6,7] (fun si sj _ wr=>∃ (i j:Nat) (rs:List (List Value)),si = .int .i64 i∧sj = .int .i64 j∧i < j∧j≤l.length∧rs.length=l.length∧RowsBlk wr g 41 3 rs∧rs.take i=((l.take j).filter fun x=>!f x).map Sy.cells∧(∀ t,j≤t→rs[t]?=(l[t]?).map Sy.cells)∧Chg [g] w wr) (fun _ sj _ _=>l.length - (intOf sj).toNat)
 case atStart=>exact ⟨k0,k0 + 1,l.map Sy.cells,rfl,by go_num,by omega,by omega,by simp,HB.out.kept HC1.out (by simp),HST.out,fun t _=>by simp,HC1.out.weak⟩
 case round=>
  obtain ⟨i,j,rs,rfl,rfl,hij,hjl,hrl,hb,htk,hrest,hc⟩:=hrel
  have HBR:=Lib.hid hb; have HTK:=Lib.hid htk; have HRE:=Lib.hid hrest; have HC:=Lib.hid hc
  clear hb htk hrest hc
  obtain ⟨wO,hwO⟩ : ∃ x,x=wr:=⟨_,rfl⟩
  subst hwO
  by_cases hlt : j < l.length
  ·obtain ⟨x,hx⟩ : ∃ x,l[j]?=some x:=⟨l[j],List.getElem?_eq_getElem hlt⟩
   have hxr : rs[j]?=some (Sy.cells x):=by rw [HRE.out j (Nat.le_refl _),hx]; rfl
   have d0 : wO.cell? ⟨g,j * 3,none⟩=some (.string (bs x.name)):=HBR.out.cell hxr (i:=0) rfl
   have d1 : wO.cell? ⟨g,j * 3 + 1,none⟩=some (.int .i64 x.len):=HBR.out.cell hxr (i:=1) rfl
   have d2 : wO.cell? ⟨g,j * 3 + 2,none⟩=some (.int .i64 x.args):=HBR.out.cell hxr (i:=2) rfl
   obtain ⟨wA,hwA⟩ : ∃ y,wO.alloc (.cells #[Value.string (bs x.name),Value.int IntKind.i64 x.len,Value.int IntKind.i64 x.args] 41)=y:=⟨_,rfl⟩
   have hcA:Chg [] wO wA:=by rw [← hwA]; exact (Chg.refl _ _).alloc _
   have hbA:Blk wA wO.heap.size #[Value.string (bs x.name),Value.int IntKind.i64 x.len,Value.int IntKind.i64 x.args] 41:=by rw [← hwA]; exact Blk.new wO _ _
   have HCA:=Lib.hid (HC.out.then hcA.weak)
   have HCALL:=Lib.hid (HF.out x (List.mem_of_getElem? hx) wA HCA.out)
   have HBA:=Lib.hid hbA
   have HRA:=Lib.hid (HBR.out.kept hcA (by simp))
   have HX:=Lib.hid hx
   have hgl:=HBR.out.lt
   have e0:=hbA.cell 0 _ rfl; have e1:=hbA.cell 1 _ rfl; have e2:=hbA.cell 2 _ rfl
   obtain ⟨q,hq⟩ : ∃ q,q=f x:=⟨_,rfl⟩
   rw [← hq] at HCALL
   have HQ:=Lib.hid hq.symm
   clear hcA hbA hx hxr hq
   go_wp2_with fail
   clear hwA e0 e1 e2 d0 d1 d2
   refine HCALL.out.mono ?_; rintro _ w5 ⟨rfl,hc5⟩
   have HC5:=Lib.hid (HCA.out.then hc5.weak)
   have HB5:=Lib.hid (HBA.out.kept hc5 (by simp)); have HR5:=Lib.hid (HRA.out.kept hc5 (by simp))
   clear hc5
   cases q with
   | true=>
    have HTX:=Lib.hid (show rs.take i=((l.take (j + 1)).filter fun x=>!f x).map Sy.cells by
     rw [take_more HX.out,List.filter_append,List.filter_cons,HQ.out]; simpa using HTK.out)
    go_wp2_with fail
    go_roundw
    case rel=>exact ⟨i,j + 1,rs,rfl,by go_num,by omega,by omega,hrl,HR5.out,HTX.out,fun t ht=>HRE.out t (by omega),HC5.out⟩
    case measure=>simp [intOf]; omega
   | false=>
    have e0:=HB5.out.cell 0 _ rfl; have e1:=HB5.out.cell 1 _ rfl; have e2:=HB5.out.cell 2 _ rfl
    have hil : i < rs.length:=by omega
    obtain ⟨y0,y1,y2,hy⟩ : ∃ y0 y1 y2,rs[i]?=some [y0,y1,y2]:=by
     obtain ⟨cur,_,_,hcur⟩:=HR5.out
     have h0 : rs[i]?=some rs[i]:=List.getElem?_eq_getElem hil
     have h3:=(hcur i _ h0).1
     obtain ⟨y0,y1,y2,hy3⟩:=three_of h3
     exact ⟨y0,y1,y2,by rw [h0,hy3]⟩
    have z0:=HR5.out.cell hy (i:=0) rfl; have z1:=HR5.out.cell hy (i:=1) rfl; have z2:=HR5.out.cell hy (i:=2) rfl
    have f0:=HR5.out.frozen (i * 3); have f1:=HR5.out.frozen (i * 3 + 1); have f2:=HR5.out.frozen (i * 3 + 2)
    rw [Nat.add_zero] at z0
    obtain ⟨wP,hwP⟩ : ∃ y,(((w5.setCell ⟨g,i * 3,none⟩ (.string (bs x.name))).setCell ⟨g,i * 3 + 1,none⟩ (.int .i64 x.len)).setCell ⟨g,i * 3 + 2,none⟩ (.int .i64 x.args))=y:=⟨_,rfl⟩
    have HRP:=Lib.hid (show RowsBlk wP g 41 3 (rs.set i (Sy.cells x)) by rw [← hwP]; exact HR5.out.put3 i hil _ _ _)
    have HCP:=Lib.hid (show Chg [g] w wP by rw [← hwP]; exact HC5.out.then (put3_chg _ _ _ _ _ _))
    have HTX:=Lib.hid (show (rs.set i (Sy.cells x)).take (i + 1)=((l.take (j + 1)).filter fun x=>!f x).map Sy.cells by
     rw [take_more (List.getElem?_set_self hil),List.take_set_of_le (Nat.le_refl _),HTK.out,take_more HX.out,List.filter_append,List.filter_cons,HQ.out]; simp)
    clear hy
    go_wp2_with fail
    go_roundw
    case rel=>exact ⟨i + 1,j + 1,rs.set i (Sy.cells x),by go_num,by go_num,by omega,by omega,by simpa using hrl,HRP.out,HTX.out,fun t ht=>by rw [List.getElem?_set_ne (by omega)]; exact HRE.out t (by omega),HCP.out⟩
    case measure=>simp [intOf]; omega
  ·have hje : j=l.length:=by omega
   have hil : i < l.length:=by omega
   obtain ⟨d,hd⟩ : ∃ d,l.length=i + d:=⟨l.length - i,by omega⟩
   have hd0 : 0 < d:=by omega
   have hcells : ∀ t,t < d * 3→(wO.cell? ⟨g,i * 3 + t,none⟩).isSome=true:=fun t ht=>by
    obtain ⟨cur,hb,hs,_⟩:=HBR.out
    have hsz : i * 3 + t < cur.size:=by rw [hrl,hd] at hs; omega
    rw [hb.cell (i * 3 + t) cur[i * 3 + t] (by simp [hsz])]; rfl
   obtain ⟨vs,hclr⟩:=run_clear3 (P:=Tryz.prog) wO 38 41 _ Tryz.underlying38 zero_sym (str []) (.int .i64 0) (.int .i64 0) rfl ⟨rfl,rfl,rfl⟩ g (i * 3) d (c - i) hd0 hcells (fun t _=>HBR.out.frozen _)
   obtain ⟨hrt,hct⟩:=HBR.out.tail (vs:=vs) (i * 3) (i:=i) (by omega) (Nat.le_refl _)
   have HFE:=Lib.hid (show rs.take i=(l.filter fun x=>!f x).map Sy.cells by rw [HTK.out,hje,List.take_length])
   obtain ⟨wC,hwC⟩ : ∃ y,wO.setCells g (i * 3) vs=y:=⟨_,rfl⟩
   rw [hwC] at hclr hrt hct
   have HRT:=Lib.hid hrt; have HCT:=Lib.hid (HC.out.then hct)
   have HIL:=Lib.hid (show i=(l.filter fun x=>!f x).length by
    have:=congrArg List.length HFE.out
    simpa [hrl,Nat.min_eq_left (Nat.le_of_lt hil)] using this)
   clear hcells hrt hct
   go_wp2_with fail
   go_ret
   rw [← HIL.out,← HFE.out]
   exact ⟨rfl,HRT.out,HCT.out⟩
end Go.Proofs.YtilhhkokdfajiaaGreatDoor
