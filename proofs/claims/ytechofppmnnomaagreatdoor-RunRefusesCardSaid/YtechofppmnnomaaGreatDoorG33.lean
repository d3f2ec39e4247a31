/- Some texts in one. -/
import Derived.Test.YtechofppmnnomaaGreatDoorG28
import Derived.Test.YtechofppmnnomaaGreatDoorG32
namespace Go.Mq.Run
open Go Go.RowKit Go.Mq Go.Mq.Tree Go.Mq.Sym
open Classical
theorem names_one {l:List Glob} (hn : (l.map (·.name)).Nodup) {x y:Glob} (hx : x∈l) (hy : y∈l) (h : x.name=y.name) : x=y:=by
 induction l with
 | nil=>cases hx
 | cons a r ih=>
  rw [List.map_cons,List.nodup_cons] at hn;rcases List.mem_cons.1 hx with h1|h1 <;> rcases List.mem_cons.1 hy with h2|h2
  ·rw [h1,h2]
  ·exact(hn.1 (List.mem_map.2 ⟨y,h2,by rw [← h,h1]⟩)).elim
  ·exact(hn.1 (List.mem_map.2 ⟨x,h1,by rw [h,h2]⟩)).elim
  ·exact ih hn.2 h1 h2
theorem any_reach {M:Ms} {l:List Nm} {b:Nm} : (l.any fun n=>reachB M n b)=true ↔ ∃ n∈l,Run.Reach M n b:=by
 simp [reachB,List.any_eq_true]
theorem swap_round {W:Wd} {m old:Mod} (h1:W.M m.name=some old) (h2:Go.Mq.Check.Out.fine=Go.Mq.Check.check m (seenOf W.M)) (h3 : ∃ n∈m.imports,Run.Reach W.M n m.name) : swapW W m=(W,.plain 11):=by
 rw [swapW,h1];simp only;rw [← h2];simp only;rw [if_pos h3]
theorem swap_state {W:Wd} {m old:Mod} (h1:W.M m.name=some old) (h2:Go.Mq.Check.Out.fine=Go.Mq.Check.check m (seenOf W.M)) (h3 : ¬ ∃ n∈m.imports,Run.Reach W.M n m.name) (h4 : ∃ n∈W.order,∃ mn,W.M n=some mn∧needsT (ofM old) (Go.Mq.Used.usedL m.name mn)≠needsT (ofM m) (Go.Mq.Used.usedL m.name mn)) : swapW W m=(W,.plain 6):=by
 rw [swapW,h1];simp only;rw [← h2];simp only;rw [if_neg h3,if_pos h4]
theorem swap_ok {W:Wd} {m old:Mod} (h1:W.M m.name=some old) (h2:Go.Mq.Check.Out.fine=Go.Mq.Check.check m (seenOf W.M)) (h3 : ¬ ∃ n∈m.imports,Run.Reach W.M n m.name) (h4 : ¬ ∃ n∈W.order,∃ mn,W.M n=some mn∧needsT (ofM old) (Go.Mq.Used.usedL m.name mn)≠needsT (ofM m) (Go.Mq.Used.usedL m.name mn)) : swapW W m=(⟨setM W.M m,swapV W.vs old m,W.order⟩,.fine):=by
 rw [swapW,h1];simp only;rw [← h2];simp only;rw [if_neg h3,if_neg h4]
def mixV (vs:Nm→Option (List Int)) (old l all:List Glob):Nm→Option (List Int):=fun n=>if (l.any fun g=>g.name == n && old.any fun h=>h.name == n && h.len == g.len) then vs n else startF all n
theorem mix_nil (vs:Nm→Option (List Int)) (old all:List Glob) : mixV vs old [] all=startF all:=by funext n;simp [mixV]
theorem mix_no {vs:Nm→Option (List Int)} {old l all:List Glob} {g:Glob} (h : (old.any fun h=>h.name == g.name && h.len == g.len)=false) : mixV vs old (l ++ [g]) all=mixV vs old l all:=by
 funext n
 have : (g.name == n && old.any fun h=>h.name == n && h.len == g.len)=false:=by
  cases he : g.name == n with
  | false=>rfl
  | true=>
   have:=eq_of_beq he;subst this
   simpa using h
 simp only [mixV,List.any_append,List.any_cons,List.any_nil,this,Bool.or_false]
theorem mix_yes {vs:Nm→Option (List Int)} {old l all:List Glob} {g:Glob} {x:List Int} (h : (old.any fun h=>h.name == g.name && h.len == g.len)=true) (hx : vs g.name=some x) : mixV vs old (l ++ [g]) all=fun n=>if n=g.name then some x else mixV vs old l all n:=by
 funext n
 by_cases he : n=g.name
 ·subst he
  simp only [mixV,List.any_append,List.any_cons,List.any_nil,h,beq_self_eq_true,Bool.and_self,Bool.or_true,Bool.true_or,if_true,hx]
 ·have : (g.name == n)=false:=by simpa using fun e=>he e.symm
  simp only [mixV,List.any_append,List.any_cons,List.any_nil,this,Bool.false_and,Bool.or_false,if_neg he]
theorem mix_all (vs:Vs) (m old:Mod) : mixV (vs m.name) old.vars m.vars m.vars=swapV vs old m m.name:=by
 funext n
 rw [swapV,if_pos rfl];by_cases h : keptB old m n=true
 ·rw [if_pos h];exact if_pos h
 ·rw [if_neg h];exact if_neg h
theorem kept_len {W:Wd} (hI:Inv W) {q:Nm} {old:Mod} (ho:W.M q=some old) {g:Glob} (hk : (old.vars.any fun h=>h.name == g.name && h.len == g.len)=true) : ∃ l,W.vs q g.name=some l∧l.length=sizeG g:=by
 obtain⟨h,hh,hb⟩:=List.any_eq_true.1 hk;simp only [Bool.and_eq_true,beq_iff_eq] at hb;have hs:=hI.shape q g.name;rw [ho] at hs;simp only [Option.bind_some] at hs;rw [← hb.1,startF_is (vars_nodup hI.ok ho) hh,hb.1] at hs;cases hv:W.vs q g.name with
 | none=>rw [hv] at hs;cases hs
 | some l=>
  rw [hv] at hs;simp only [Option.map_some,Option.some.injEq] at hs;exact⟨l,rfl,by rw [hs,zeros,List.length_replicate,sizeG,sizeG,hb.2]⟩
theorem mix_len {W:Wd} (hI:Inv W) {q:Nm} {old m:Mod} (ho:W.M q=some old) (hn : (m.vars.map (·.name)).Nodup) {l:List Glob} {g:Glob} (hg : g∈m.vars) (hl : ∀ x∈l,x∈m.vars) : ∃ y,mixV (W.vs q) old.vars l m.vars g.name=some y∧y.length=sizeG g:=by
 rw [mixV];split
 ·next h=>
  obtain⟨x,hx,hb⟩:=List.any_eq_true.1 h;simp only [Bool.and_eq_true,beq_iff_eq] at hb;have hxg : x=g:=names_one hn (hl x hx) hg hb.1;subst hxg;exact kept_len hI ho hb.2
 ·exact⟨_,startF_is hn hg,by simp [zeros]⟩
end Go.Mq.Run
namespace Go.Proofs.YtechofppmnnomaaGreatDoor
open Go Go.RowKit Go.Mq Go.Mq.Tree Go.Mq.Sym Go.Mq.Run
open Go.Mq.Check (FewM FewS FewE argsN check Out At1)
open Go.Mq.Plan (MapIs getM putM run_getM run_getMok run_getNok run_putM)
open Go.Mq.Used (usedL usedL_short useM_len)
set_option maxRecDepth 100000
set_option maxHeartbeats 4000000
def Swapped (w:World) (Own G Gm:Nat→Prop) (bw:Nat) (r:Wd × Out) (e:Ending) (w':World):Prop:=
 ∃ vo,e = .returned vo∧ErrV w' r.2 vo∧WAt w' (More Own w w') (fun x=>G x∨Gm x) bw r.1∧ChgO Own w w'
theorem Swapped.no {w w':World} {Own G Gm:Nat→Prop} {bw:Nat} {W:Wd} {o:Out} {vo:Value} (h:WAt w Own G bw W) (hc:Chg [] w w') (hgm : ∀ x,Gm x→x < w.heap.size∧¬ Own x) (he:ErrV w' o vo):Swapped w Own G Gm bw (W,o) (.returned vo) w':=
 ⟨_,rfl,he,h.idle hc hgm,.of hc⟩
theorem goodM_of {m:Mod} (hg:GoodM m) {F:Nat→Prop} {ai:Option Addr} {ci:Nat} {av:Option Addr} {cv:Nat} {ap:Option Addr} {cp:Nat} {ab:Option Addr} {cb:Nat} (w:World) (h:ModAt w F m (.agg #[str m.name,.slice ai m.imports.length ci,.slice av m.vars.length cv,.slice ap m.procs.length cp,.slice ab m.body.len cb])) :
  Calls Tryz.prog 52 #[.agg #[str m.name,.slice ai m.imports.length ci,.slice av m.vars.length cv,.slice ap m.procs.length cp,.slice ab m.body.len cb]] w (fun e w'=>∃ v,e = .returned v∧SymsAt w' (New w w') (ofM m) v∧Chg [] w w'):=by
 obtain⟨vi,vv,vp,vb,he,hi,hv,hp,hb⟩:=h;cases he
 exact of_any m.vars m.procs hg.wf.fewv hg.wf.fewp F m.name ai _ ci ab _ cb _ _ w hv (procsL_of hp)
theorem needM_of {m:Mod} (hg:GoodM m) (names:List Nm) (hn : names.length≤1000) (hs : ∀ n∈names,n.length≤10) (F F':Nat→Prop) (v v':Value) (w:World) (B:Nat) (hL:Laid w B) (h:SymsAt w F (ofM m) v) (h':NamesAt w F' names v') :
  Calls Tryz.prog 54 #[v,v'] w (fun e w'=>e = .returned (str (needsT (ofM m) names))∧Chg [] w w'):=
 needs_any (ofM m) (ofM_fit hg) (by have:=seenL_len hg.wf.fewv hg.wf.fewp;rw [ofM];omega) names hn (fun n h=>by have:=hs n h;omega) F F' v v' w B hL h h'
theorem usedM_few {m:Mod} (hg:GoodM m) (g:List UInt8) : (usedL g m).length≤1000:=by
 rw [usedL,List.length_mergeSort];exact Nat.le_trans (useM_len g m) hg.cnt
theorem ne_some_ints : ∀ (a:Addr) (k:Nat) (w:World),(binOp .neq 41 (.slice (some a) k k) (.slice none 0 0)).run Tryz.prog w = .ok (.bool true) w:=fun _ _ _=>by kernel_rfl
theorem ne_none_ints : ∀ (w:World),(binOp .neq 41 (.slice none 0 0) (.slice none 0 0)).run Tryz.prog w = .ok (.bool false) w:=fun _=>by kernel_rfl
theorem copy_ints {w:World} {a b:Nat} {l:List Int} {cur:Array Value} (ty:TypeId) (ha:Blk w a (ints l).toArray i64T) (hb:Blk w b cur i64T) (hn : cur.size=l.length) :
  ∃ w',(Builtin.copy_ #[41,41] ty #[.slice (some ⟨b,0,none⟩) l.length l.length,.slice (some ⟨a,0,none⟩) l.length l.length]).run Tryz.prog w = .ok (goInt l.length) w'∧Chg [b] w w'∧Blk w' b (ints l).toArray i64T:=by
 have h:=run_copy_row (P:=Tryz.prog) w 41 41 ty i64T b 0 l.length l.length ⟨a,0,none⟩ l.length l.length cur i64T (ints l) Tryz.underlying41 (by kernel_rfl) hb (by simp) (fun j v hv=>by
  have hx:=ha.cell j v (by simpa using hv);by_cases hj : j=0
  ·subst hj;simpa [Addr.add] using hx
  ·simpa [Addr.add,hj] using hx) (by simp;omega) (fun v hv=>by
  obtain⟨x,_,rfl⟩:=List.mem_map.1 hv
  rfl)
 have he : (cur.toList.take 0 ++ ints l ++ cur.toList.drop (0 + (ints l).length)).toArray=(ints l).toArray:=by
  rw [List.drop_of_length_le (by simp;omega)];simp
 rw [he] at h;refine⟨w.setRow b (ints l).toArray,by simpa using h,⟨rfl,rfl,rfl,by simp,fun k _ hk=>setRow_other w b k _ (fun e=>hk (by simp [e]))⟩,setRow_heap w b cur _ i64T _ hb⟩
theorem set6R {w:World} {b:Nat} (v0 v1 v2 v3 v4 v5:Value) {u0 u1 u2 u3 u4 u5:Value} {t:TypeId} (h:Blk w b #[u0,u1,u2,u3,u4,u5] t) : ∃ wF,((((((w.setCell ⟨b,0,none⟩ v0).setCell ⟨b,1,none⟩ v1).setCell ⟨b,2,none⟩ v2).setCell ⟨b,3,none⟩ v3).setCell ⟨b,4,none⟩ v4).setCell ⟨b,5,none⟩ v5)=wF∧Chg [b] w wF∧Blk wF b #[v0,v1,v2,v3,v4,v5] t:=
 ⟨_,rfl,(((((Chg.set1 _ _ _ _).then (Chg.set1 _ _ _ _)).then (Chg.set1 _ _ _ _)).then (Chg.set1 _ _ _ _)).then (Chg.set1 _ _ _ _)).then (Chg.set1 _ _ _ _),by
  have:=(((((h.set 0 v0).set 1 v1).set 2 v2).set 3 v3).set 4 v4).set 5 v5
  simpa using this⟩
theorem wswap_any {w:World} {Own G Gm:Nat→Prop} {bw:Nat} {W:Wd} {m:Mod} {vm:Value} {B:Nat} (h:WAt w Own G bw W) (hI:Inv W) (hm:ModAt w Gm m vm) (hgm : ∀ x,Gm x→x < w.heap.size∧¬ Own x) (hgood:GoodM m) (hL:Laid w B) :
  Calls Tryz.prog 24 #[ptr bw,vm] w (Swapped w Own G Gm bw (swapW W m)):=by
 have hmf : ∀ (fn:Fn) (first cap:Array Value) (w:World),(Instr.makeFunc fn first cap).run Tryz.prog w = .ok (.func fn first cap) w:=fun _ _ _ _=>rfl
 have hne1:=ne_some_ints;have hne2:=ne_none_ints;obtain⟨pv,oa,oc,hfr⟩:=h.front;obtain⟨ai,ci,av,cv,ap,cp,ab,cb,rfl⟩ : ∃ (ai:Option Addr) (ci:Nat) (av:Option Addr) (cv:Nat) (ap:Option Addr) (cp:Nat) (ab:Option Addr) (cb:Nat),vm = .agg #[str m.name,.slice ai m.imports.length ci,.slice av m.vars.length cv,.slice ap m.procs.length cp,.slice ab m.body.len cb]:=by
  obtain⟨vi,vv,vp,vb,rfl,⟨ai,ci,rfl,_⟩,⟨av,cv,rfl,_⟩,⟨ap,cp,pcs,rfl,_⟩,⟨ab,cb,bcs,rfl,_⟩⟩:=hm;exact⟨_,_,_,_,_,_,_,_,rfl⟩
 obtain⟨w0,hw0⟩ : ∃ x,w.alloc (.cells #[ptr bw] 50)=x:=⟨_,rfl⟩
 have hb0:Blk w0 w.heap.size #[ptr bw] 50:=by rw [← hw0];exact Blk.new w _ _
 have hc0:Chg [] w w0:=by rw [← hw0];exact(Chg.refl _ _).alloc _
 have hs0 : w0.heap.size=w.heap.size + 1:=by rw [← hw0];simp
 obtain⟨w1,hw1⟩ : ∃ x,w0.alloc (.cells #[str m.name,.slice ai m.imports.length ci,.slice av m.vars.length cv,.slice ap m.procs.length cp,.slice ab m.body.len cb] 32)=x:=⟨_,rfl⟩
 have hb1:Blk w1 w0.heap.size #[str m.name,.slice ai m.imports.length ci,.slice av m.vars.length cv,.slice ap m.procs.length cp,.slice ab m.body.len cb] 32:=by rw [← hw1];exact Blk.new w0 _ _
 have hc1:Chg [] w0 w1:=by rw [← hw1];exact(Chg.refl _ _).alloc _
 have hs1 : w1.heap.size=w0.heap.size + 1:=by rw [← hw1];simp
 obtain⟨b2,hb2⟩ : ∃ b,b=w.heap.size:=⟨_,rfl⟩
 obtain⟨b3,hb3⟩ : ∃ b,b=w0.heap.size:=⟨_,rfl⟩
 have hcw1:Chg [] w w1:=hc0.then hc1
 obtain⟨wD,hwD⟩ : ∃ x,x=w1.drew:=⟨_,rfl⟩
 have hcD1:Chg [] w1 wD:=by rw [hwD];exact(Chg.refl [] w1).drew
 have hcD:Chg [] w wD:=hcw1.then hcD1
 have h2D:=(hb0.kept hc1 (by simp)).kept hcD1 (by simp);have h3D:=hb1.kept hcD1 (by simp);have hwb:=hfr.blk.kept hcD (by simp);rw [← hb2] at h2D;rw [← hb3] at h3D;have x2:=h2D.cell 0 _ rfl;have x3:=h3D.cell 0 _ rfl;have b0:=hwb.cell 0 _ rfl;obtain⟨o,hlk⟩:=front_look hfr m.name;have HLK:=zh (fun w' (hc:Chg [] wD w')=>hlk w' (hcD.then hc));clear hlk;have HLT:=zh (show b2=w.heap.size∧b3=w.heap.size + 1∧wD.heap.size=w.heap.size + 2 by
  refine⟨hb2,by omega,by rw [hwD];show w1.heap.size=_;omega⟩)
 have H:=zh h;have HI:=zh hI;have HM:=zh hm;have HGM:=zh hgm;have HGO:=zh hgood;have HL:=zh hL;have HFR:=zh hfr;have H2D:=zh h2D;have H3D:=zh h3D;have HCD:=zh hcD;clear h hI hm hgm hgood hL hfr hb0 hc0 hs0 hb1 hc1 hs1 hcw1 hcD1 hcD h2D h3D hwb;cases hold:W.M m.name with
 | none=>
  rw [hold] at HLK;have HR:=zh (show (W,Out.plain 7)=swapW W m by rw [swapW,hold]);clear hold
  go_enter Tryz.func24,Tryz.ntmps24
  go_wp2_with fail;rw [← hb2,← hb3];clear hw0 hw1 hb2 hb3;refine wp_region_L [] rfl (by kernel_rfl) ?_;rw [← hwD];clear hwD;have hS:Chg [] wD wD:=Chg.refl _ _
  repeat ((with_reducible refine gX ?_);(first|refine wpX_nil ?_|refine sK ?_|refine sM fun _ _=>?_|refine sL fun _ _=>?_|refine sE fun _ _=>?_);go_wp2_with fail)
  refine wpX_lk rfl rfl rfl rfl HLK.out ?_;go_wp2_with fail
  repeat ((with_reducible refine gX ?_);(first|refine wpX_nil ?_|refine sK ?_|refine sM fun _ _=>?_|refine sL fun _ _=>?_|refine sE fun _ _=>?_);go_wp2_with fail)
  go_ret
  rw [← HR.out];exact Swapped.no H.out HCD.out HGM.out rfl
 | some old=>
  rw [hold] at HLK;obtain⟨bp,L,pes,rfl,hhas,hord⟩ : ∃ bp L pes,pv=some bp∧Has w Own G bw W L∧OrdAt w Own G bw W L bp (.slice oa W.order.length oc) pes:=by
   rcases HFR.out.at_ with⟨_,rfl,_⟩|h
   ·cases hold
   ·exact h
  have hqq:=hord.2.2.2.2.2.2 m.name;rw [hold] at hqq;obtain⟨hget,hown,bvo,_,hparto⟩:=hqq;have hlk2 : ∀ w',Chg [] wD w'→(Instr.lookup 38 (.map (some bp)) (str m.name) true).run Tryz.prog w' = .ok (.tuple #[ptr (L.pb m.name),.bool true]) w':=fun w' hc=>by
   have hl:=run_getMok (P:=Tryz.prog) Tryz.underlying38 Tryz.underlying9 (zero_part w') (hord.2.2.1.kept (HCD.out.then hc) (by simp)) m.name;rw [hget] at hl;exact hl
  have HLK:=zh hlk2;have HHAS:=zh hhas;have HORD:=zh hord;have HPO:=zh hparto;have HOLD:=zh hold;clear hhas hord hget hown hparto hold hlk2
  go_enter Tryz.func24,Tryz.ntmps24
  go_wp2_with fail;rw [← hb2,← hb3];clear hw0 hw1 hb2 hb3;refine wp_region_L [] rfl (by kernel_rfl) ?_;rw [← hwD];clear hwD;have hS:Chg [] wD wD:=Chg.refl _ _
  repeat ((with_reducible refine gX ?_);(first|refine wpX_nil ?_|refine sK ?_|refine sM fun _ _=>?_|refine sL fun _ _=>?_|refine sE fun _ _=>?_);go_wp2_with fail)
  refine wpX_lk rfl rfl rfl rfl HLK.out ?_;have HSE:=zh (seen_world (H.out.kept HCD.out (by simp)));go_wp2_with fail
  repeat ((with_reducible refine gX ?_);(first|refine wpX_nil ?_|refine sK ?_|refine sM fun _ _=>?_|refine sL fun _ _=>?_|refine sE fun _ _=>?_);go_wp2_with fail)
  refine HSE.out.mono ?_;rintro _ w3 ⟨vs,rfl,hsv,hc3⟩;obtain⟨sv,rfl⟩ : ∃ ov,vs = .map ov:=by
   rcases hsv with⟨h,_⟩|⟨b,_,h,_⟩
   ·exact⟨_,h⟩
   ·exact⟨_,h⟩
  have HSV:=zh hsv;have HC3:=zh hc3;have HCK:=zh (ccheck_any m HGO.out.few (seenOf W.M) (fun x=>Gm x∨New wD w3 x) _ (.map sv) w3 (fun x hx=>by
   rcases hx with hx|hx
   ·have:=(HGM.out x hx).1;have:=(HCD.out.then hc3).size;omega
   ·exact hx.2) ((HM.out.kept (HCD.out.then hc3) (by simp)).mono (fun x hx=>.inl hx)) (hsv.mono (fun x hx=>.inr hx)))
  clear hS x2 x3 b0 hsv hc3;have h3:=H3D.out.kept HC3.out (by simp);have q0:=h3.cell 0 _ rfl;have q1:=h3.cell 1 _ rfl;have q2:=h3.cell 2 _ rfl;have q3:=h3.cell 3 _ rfl;have q4:=h3.cell 4 _ rfl;clear h3;go_wp2_with fail;refine HCK.out.mono ?_;rintro e w4 ⟨hc4,hck⟩;have HC34:=zh hc4;have HC4:=zh (HC3.out.then hc4);have HC04:=zh (HCD.out.then (HC3.out.then hc4));clear hc4 q0 q1 q2 q3 q4;obtain⟨oc',hoc⟩ : ∃ o,o=check m (seenOf W.M):=⟨_,rfl⟩
  rw [← hoc] at hck;have HOC:=zh hoc;clear hoc;cases oc' with
  | plain n=>
   simp only at hck;subst hck;have HR:=zh (show (W,Out.plain n)=swapW W m by rw [swapW,HOLD.out];simp only;rw [← HOC.out]);go_wp2_with fail;go_ret
   rw [← HR.out];exact Swapped.no H.out HC04.out HGM.out rfl
  | at_ en p=>
   obtain⟨ba,rfl,hba,hbb⟩:=hck;have HR:=zh (show (W,Out.at_ en p)=swapW W m by rw [swapW,HOLD.out];simp only;rw [← HOC.out]);have HBB:=zh hbb;clear hba hbb;go_wp2_with fail;go_ret
   rw [← HR.out];exact Swapped.no H.out HC04.out HGM.out ⟨ba,rfl,HBB.out⟩
  | fine=>
   simp only at hck;subst hck;have h3:=H3D.out.kept HC4.out (by simp);have h2:=H2D.out.kept HC4.out (by simp);have q1:=h3.cell 1 _ rfl;obtain⟨vi,vv,vp,vb,hve,hni,_,_,_⟩:=HM.out.kept HC04.out (by simp);cases hve
   have HCF:=zh (contains2 50 (fun _ _=>rfl) m.imports HGO.out.few.imports (fun n=>reachB W.M n m.name) (ptr b2) (ptr b3) _ _ w4 hni (fun n hn w' hc=>by
    have z0:=(h2.kept hc (by simp)).cell 0 _ rfl;have z1:=(h3.kept hc (by simp)).cell 0 _ rfl;have HRR:=zh (reaches_any H.out m.name n (HI.out.acyc n) w' (HC04.out.then hc));clear h2 h3 hni q1 HCK HSE HLK HHAS HORD HPO HFR
    go_enter Tryz.func50,Tryz.ntmps50
    go_wp2_with fail;refine HRR.out.mono ?_;rintro _ w2 ⟨rfl,hc2⟩;go_wp2_with fail;go_ret
    exact⟨rfl,hc2⟩))
   clear h2 h3 hni;go_wp2_with fail;refine HCF.out.mono ?_;rintro _ w5 ⟨rfl,hc5⟩;have HC5':=zh hc5;have HC5:=zh (HC4.out.then hc5);have HC05:=zh (HC04.out.then hc5);clear hc5 q1;cases hany : (m.imports.any fun n=>reachB W.M n m.name) with
   | true=>
    have HR:=zh (swap_round HOLD.out HOC.out (any_reach.1 hany)).symm;clear hany;go_wp2_with fail;go_ret
    rw [← HR.out];exact Swapped.no H.out HC05.out HGM.out rfl
   | false=>
    have HNR:=zh (show ¬ ∃ n∈m.imports,Run.Reach W.M n m.name from fun h=>by rw [any_reach.2 h] at hany;cases hany);clear hany;have h3:=H3D.out.kept HC5.out (by simp);have q0:=h3.cell 0 _ rfl;have q1:=h3.cell 1 _ rfl;have q2:=h3.cell 2 _ rfl;have q3:=h3.cell 3 _ rfl;have q4:=h3.cell 4 _ rfl;clear h3;have HOF:=zh (goodM_of HGO.out w5 (HM.out.kept HC05.out (by simp)));go_wp2_with fail;refine HOF.out.mono ?_;rintro _ w6 ⟨nv,rfl,hnv,hc6⟩;have HNV:=zh hnv;have HC56:=zh hc6;have HC6:=zh (HC5.out.then hc6);have HC06:=zh (HC05.out.then hc6);clear hnv hc6 q0 q1 q2 q3 q4;have x2:=(H2D.out.kept HC6.out (by simp)).cell 0 _ rfl;have b1:=(HFR.out.blk.kept HC06.out (by simp)).cell 1 _ rfl;have hlen:=H.out.few;have hown:=HORD.out.2.1;have HOW:=zh (owns_kept hown HC06.out (by simp));clear hown;go_wp2_with fail;clear x2 b1
    go_loopw [11,12,50] (fun _ _ i wr=>∃ k:Nat,i = .int .i64 k∧k≤W.order.length∧Chg [] w6 wr ∧ ∀ (i:Nat) (x:Nm),i < k→W.order[i]?=some x → ∀ mn,W.M x=some mn→needsT (ofM old) (usedL m.name mn)=needsT (ofM m) (usedL m.name mn)) (fun _ _ i _=>W.order.length - (intOf i).toNat)
    case atStart=>exact⟨0,rfl,Nat.zero_le _,Chg.refl _ _,fun i x hi=>by omega⟩
    case round=>
     obtain⟨k,rfl,hk,hc,hno⟩:=hrel;have HNO:=zh hno;have HC:=zh hc;clear hno hc;by_cases hlt : k < W.order.length
     ·obtain⟨s,hs⟩ : ∃ s,W.order[k]?=some s:=⟨W.order[k],List.getElem?_eq_getElem hlt⟩
      obtain⟨mn,hmn⟩:=Option.isSome_iff_exists.1 ((HI.out.order s).1 (List.mem_of_getElem? hs));obtain⟨bo,oo,hoa,hoc⟩ : ∃ bb off,oa=some ⟨bb,off,none⟩∧wr.cell? ⟨bb,off + k,none⟩=some (str s):=by
       obtain⟨a',c',he,_,hr⟩:=Row.of_owns (F:=fun _=>True) (owns_kept HOW.out HC.out (by simp)) (fun _ _=>trivial);simp only [Value.slice.injEq] at he;obtain⟨rfl,_⟩:=he;have hl : k < (W.order.map str).length:=by simpa using hlt
       obtain⟨bb,off,rfl,hc⟩:=cell_drop hr hl;refine⟨bb,off,rfl,?_⟩;rw [hc];simp only [List.getElem_map];rw [List.getElem?_eq_getElem hlt,Option.some.injEq] at hs;rw [hs]
      subst hoa;have hqq:=HORD.out.2.2.2.2.2.2 s;rw [hmn] at hqq;obtain⟨hget,_,bvn,_,hpn⟩:=hqq;obtain⟨wE,hwE⟩ : ∃ x,x=wr.drew:=⟨_,rfl⟩
      have hcE:Chg [] w6 wE:=HC.out.then (by rw [hwE];exact(Chg.refl [] wr).drew)
      have hcwE:Chg [] w wE:=HC06.out.then hcE
      have HCE:=zh hcE;have HCWE:=zh hcwE;obtain⟨_,_,ain,cin,avn,cvn,apn,cpn,abn,cbn,bv',esn,hp3,hmodn,_,_,_⟩:=hpn.kept hcwE (by simp);have HMN:=zh hmodn;have n0:=hp3.cell 0 _ rfl;have n1:=hp3.cell 1 _ rfl;have n2:=hp3.cell 2 _ rfl;have n3:=hp3.cell 3 _ rfl;have n4:=hp3.cell 4 _ rfl;have x2:=(H2D.out.kept (HC6.out.then hcE) (by simp)).cell 0 _ rfl;have x3:=(H3D.out.kept (HC6.out.then hcE) (by simp)).cell 0 _ rfl;have b0:=(HFR.out.blk.kept hcwE (by simp)).cell 0 _ rfl;have HLN:=zh (fun w' (hc:Chg [] wE w')=>(show (Instr.lookup 38 (.map (some bp)) (str s) false).run Tryz.prog w' = .ok (ptr (L.pb s)) w' by
       have hl:=run_getM (P:=Tryz.prog) Tryz.underlying38 Tryz.underlying9 (zero_part w') (HORD.out.2.2.1.kept (HCWE.out.then hc) (by simp)) s;rw [hget] at hl;exact hl))
      have hgn:=HI.out.ok.good s mn hmn;have HUS:=zh (used_any mn hgn.1.few hgn.1.cnt m.name (fun x=>x < wE.heap.size) _ wE (fun x hx=>hx) (by
       refine hmodn.mono (fun x hx=>?_);have h1:=HHAS.out.fix x hx.1;have h2:=H.out.lt x h1;have:=HCWE.out.size
       show x < _
       omega))
      have HS:=zh hs;have HMNN:=zh hmn;have HGN:=zh hgn;clear hs hmn hget hpn hcE hcwE hp3 hmodn hgn;go_wp2_with fail;refine wp_region_L [] rfl (by kernel_rfl) ?_;rw [← hwE];clear hwE hoc;have hS:Chg [] wE wE:=Chg.refl _ _
      repeat ((with_reducible refine gX ?_);(first|refine wpX_nil ?_|refine sK ?_|refine sM fun _ _=>?_|refine sL fun _ _=>?_|refine sE fun _ _=>?_);go_wp2_with fail)
      refine wpX_lk rfl rfl rfl rfl HLN.out ?_;go_wp2_with fail
      repeat ((with_reducible refine gX ?_);(first|refine wpX_nil ?_|refine sK ?_|refine sM fun _ _=>?_|refine sL fun _ _=>?_|refine sE fun _ _=>?_);go_wp2_with fail)
      refine HUS.out.mono ?_;rintro _ w7 ⟨u,rfl,hu,hc7⟩;have HU:=zh hu;have HC7:=zh hc7;have hc67:=HCE.out.then hc7
      have HC67:=zh hc67;have x3':=(H3D.out.kept (HC6.out.then hc67) (by simp)).cell 0 _ rfl;obtain⟨su,hls,_,_,hsy⟩:=look_seen HSV.out m.name;have hl7:=hls w7 ((HC34.out.then (HC5'.out)).then (HC56.out.then hc67));have hso : seenOf W.M m.name=some (ofM old):=by rw [seenOf,HOLD.out];rfl
      rw [hso] at hsy;simp only [Option.getD_some] at hsy;have hnl:=usedM_few HGN.out.1 m.name;have hns:=usedL_short m.name HGN.out.1.wf;have HN1:=zh (needM_of (HI.out.ok.good m.name old HOLD.out).1 (usedL m.name mn) hnl hns _ _ _ _ w7 B ((HL.out.kept (HC06.out.then hc67) (by simp))) (hsy.kept ((HC34.out.then (HC5'.out)).then (HC56.out.then hc67)) (by simp)) hu);have HN2:=zh (fun w8 (hc8:Chg [] w7 w8)=>needM_of HGO.out (usedL m.name mn) hnl hns _ _ _ _ w8 B ((HL.out.kept (HC06.out.then (hc67.then hc8)) (by simp))) (HNV.out.kept (hc67.then hc8) (by simp)) (hu.kept hc8 (by simp)));obtain⟨t1,ht1⟩ : ∃ t,t=needsT (ofM old) (usedL m.name mn):=⟨_,rfl⟩
      obtain⟨t2,ht2⟩ : ∃ t,t=needsT (ofM m) (usedL m.name mn):=⟨_,rfl⟩
      rw [← ht1] at HN1;simp only [← ht2] at HN2;have HT1:=zh ht1;have HT2:=zh ht2;clear hS n0 n1 n2 n3 n4 x2 x3 b0 hu hc7 hc67 hls hsy hso hnl hns ht1 ht2;go_wp2_with fail;refine And.intro HC7.out ?_;have hS:=HC7.out
      repeat ((with_reducible refine gX ?_);(first|refine wpX_nil ?_|refine sK ?_|refine sM fun _ _=>?_|refine sL fun _ _=>?_|refine sE fun _ _=>?_);go_wp2_with fail)
      refine HN1.out.mono ?_;rintro _ w8 ⟨rfl,hc8⟩;have HC8:=zh hc8;clear hS hl7 x3';go_wp2_with fail;refine(HN2.out w8 HC8.out).mono ?_;rintro _ w9 ⟨rfl,hc9⟩;have HC9:=zh (HC67.out.then (HC8.out.then hc9));clear hc8 hc9;cases hq : (t1 == t2) with
      | true=>
       have hee : t1=t2:=by simpa using hq
       have HEE:=zh hee;clear hee;go_wp2_with fail;refine⟨⟨k + 1,by go_num,by omega,HC9.out,fun i x hi hx=>?_⟩,by simp [intOf];omega⟩;by_cases he : i < k
       ·exact HNO.out i x he hx
       ·have : i=k:=by omega
        subst this;rw [HS.out] at hx;cases hx
        intro mn' hmn';rw [HMNN.out] at hmn';cases hmn'
        rw [← HT1.out,← HT2.out,HEE.out]
      | false=>
       have hne : t1≠t2:=by simpa using hq
       have HR:=zh (swap_state HOLD.out HOC.out HNR.out ⟨s,List.mem_of_getElem? HS.out,mn,HMNN.out,by rw [← HT1.out,← HT2.out];exact hne⟩).symm;clear hne;go_wp2_with fail;go_ret
       rw [← HR.out];exact Swapped.no H.out (HC06.out.then HC9.out) HGM.out rfl
     ·have HNS:=zh (show ¬ ∃ n∈W.order,∃ mn,W.M n=some mn∧needsT (ofM old) (usedL m.name mn)≠needsT (ofM m) (usedL m.name mn) from fun⟨n,hn,mn,hmn,hne⟩=>by
       obtain⟨i,hi⟩:=List.getElem?_of_mem hn;exact hne (HNO.out i n (by have:=(List.getElem?_eq_some_iff.1 hi).1;omega) hi mn hmn))
      have HR:=zh (swap_ok HOLD.out HOC.out HNR.out HNS.out).symm;have h3:=H3D.out.kept (HC6.out.then HC.out) (by simp);have q0:=h3.cell 0 _ rfl;have q1:=h3.cell 1 _ rfl;have q2:=h3.cell 2 _ rfl;have q3:=h3.cell 3 _ rfl;have q4:=h3.cell 4 _ rfl;clear h3;have hcr:=HC06.out.then HC.out
      have HCR:=zh hcr;have HSTA:=zh (start_from m HGO.out.wf.fewv (fun g hg=>⟨(HGO.out.wf.vars g hg).low,(HGO.out.wf.vars g hg).high⟩) Gm ai ci av cv ap cp ab cb wr (by
       obtain⟨vi,vv,vp,vb,he,_,hgl,_⟩:=HM.out.kept hcr (by simp);cases he
       exact hgl) wr (Chg.refl _ _))
      clear hcr;go_wp2_with fail;refine HSTA.out.mono ?_;rintro _ w7 ⟨bv,dim,arrs,rfl,hbv,hva,hc7⟩;have HNDV:=zh (show (m.vars.map (·.name)).Nodup from(List.nodup_append.1 ((Check.check_fine _ _).1 HOC.out.symm).2.1).1);have HVA:=zh hva;have HBV:=zh hbv;have HC7:=zh hc7;clear hlt hk q0 q1 q2 q3 q4 hva hbv;have q2:=(H3D.out.kept ((HC6.out.then HC.out).then hc7) (by simp)).cell 2 _ rfl;have HC6L:=zh (HC6.out.then HC.out);obtain⟨wL,hwL⟩ : ∃ x,x=wr:=⟨_,rfl⟩
      subst hwL;clear hc7 HC HNO;go_wp2_with fail;clear q2
      go_loopw [15,16,83] (fun _ _ i wr=>∃ k:Nat,i = .int .i64 k∧k≤m.vars.length∧VarsV wr wL.heap.size bv (mixV (W.vs m.name) old.vars (m.vars.take k) m.vars) dim arrs∧Chg [] wL wr) (fun _ _ i _=>m.vars.length - (intOf i).toNat)
      case atStart=>exact⟨0,rfl,Nat.zero_le _,by rw [List.take_zero,mix_nil];exact VarsV.of HVA.out,HC7.out⟩
      case round=>
       obtain⟨k,rfl,hk,hv,hc⟩:=hrel;have HV:=zh hv;have HC:=zh hc;clear hv hc;have hfv:=HGO.out.wf.fewv;by_cases hlt : k < m.vars.length
       ·obtain⟨s,hs⟩ : ∃ s,m.vars[k]?=some s:=⟨m.vars[k],List.getElem?_eq_getElem hlt⟩
        obtain⟨bb,off,hav,d0,d1,d2,d3⟩ : ∃ bb off,av=some ⟨bb,off,none⟩∧wr.cell? ⟨bb,off + k * 4,none⟩=some (str s.name)∧wr.cell? ⟨bb,off + k * 4 + 1,none⟩=some (num s.pos)∧wr.cell? ⟨bb,off + k * 4 + 2,none⟩=some (num s.len)∧wr.cell? ⟨bb,off + k * 4 + 3,none⟩=some (.bool s.seen):=by
         obtain⟨vi,vv,vp,vb,he,_,⟨a',c',he2,hac,hrow⟩,_⟩:=(HM.out.kept HCR.out (by simp)).kept HC.out (by simp);cases he
         cases he2
         exact Check.glob_cells hrow hs
        subst hav;have hz:=Blk.new wr #[str [],num 0,num 0,.bool false] 68;obtain⟨wA,hwA⟩ : ∃ wA,wr.alloc (.cells #[str [],num 0,num 0,.bool false] 68)=wA:=⟨_,rfl⟩
        rw [hwA] at hz;have hcA:Chg [] wr wA:=by rw [← hwA];exact(Chg.refl _ _).alloc _
        obtain⟨wF,hwF,hcF,hbF⟩:=set4R (str s.name) (num s.pos) (num s.len) (.bool s.seen) hz;have hcw:Chg [] wr wF:=hcA.trans hcF (fun x hx=>.inr (by simp at hx;omega));have g0:=hcA.cellSome d0 (by simp);have g1:=hcA.cellSome d1 (by simp);have g2:=hcA.cellSome d2 (by simp);have g3:=hcA.cellSome d3 (by simp);have z0:=hz.cell 0 _ rfl;have z1:=hz.cell 1 _ rfl;have z2:=hz.cell 2 _ rfl;have z3:=hz.cell 3 _ rfl;have y0:=hz.frozen 0;have y1:=hz.frozen 1;have y2:=hz.frozen 2;have y3:=hz.frozen 3;obtain⟨b15,hb15⟩ : ∃ b,b=wr.heap.size:=⟨_,rfl⟩
        obtain⟨wE,hwE⟩ : ∃ x,x=wF.drew:=⟨_,rfl⟩
        have hcFE:Chg [] wF wE:=by rw [hwE];exact(Chg.refl [] wF).drew
        have hcrE:Chg [] wr wE:=hcw.then hcFE
        have hb15E:Blk wE b15 #[str s.name,num s.pos,num s.len,.bool s.seen] 68:=by rw [hb15];exact hbF.kept hcFE (by simp)
        have HB15:=zh hb15E;have HCE:=zh hcrE;have HCLE:=zh (HC.out.then hcrE);have HCWE:=zh (HCR.out.then (HC.out.then hcrE));obtain⟨_,_,aio,cio,avo,cvo,apo,cpo,abo,cbo,bvq,eso,hp3,hmodo,_,hmape,hdims⟩:=HPO.out.kept HCWE.out (by simp);have n5:=hp3.cell 5 _ rfl;have n2:=hp3.cell 2 _ rfl;have f0:=hb15E.cell 0 _ rfl;have HLN:=zh (fun w' (hc:Chg [] wE w')=>run_getM (P:=Tryz.prog) Tryz.underlying99 Tryz.underlying9 (zero_ints w') (hmape.kept hc (by simp)) s.name);rw [hdims s.name] at HLN;have HDY:=zh ((HHAS.out.home.dyn m.name s.name));have HGO2:=zh (show GlobsAt wE (fun x=>L.Fix x∧(G x∨x=L.pb m.name∨x=bvo)) old.vars (.slice avo old.vars.length cvo) by
         obtain⟨vi,vv,vp,vb,he,_,hg,_⟩:=hmodo;cases he
         exact hg)
        have HS:=zh hs;clear hs hp3 hmodo hmape hdims hcFE hcrE hb15E hcw hcF hbF hcA hz;go_wp2_with fail;refine wp_region_L [] rfl (by decide +kernel) ?_;rw [← hwE,← hb15];clear hwE hwA hwF hb15 d0 d1 d2 d3 g0 g1 g2 g3 z0 z1 z2 z3 y0 y1 y2 y3;have hS:Chg [] wE wE:=Chg.refl _ _
        repeat ((with_reducible refine gX ?_);(first|refine wpX_nil ?_|refine sK ?_|refine sM fun _ _=>?_|refine sL fun _ _=>?_|refine sE fun _ _=>?_);go_wp2_with fail)
        refine wpX_lk rfl rfl rfl rfl HLN.out ?_;cases hd:L.dim m.name s.name with
        | none=>
         rw [hd] at HDY;have HKN:=zh (show (old.vars.any fun h=>h.name == s.name && h.len == s.len)=false by
          cases hq : (old.vars.any fun h=>h.name == s.name && h.len == s.len) with
          | false=>rfl
          | true=>
           obtain⟨l,hl,_⟩:=kept_len HI.out HOLD.out hq;rw [HDY.out] at hl;cases hl)
         simp only [Option.map_none,Option.getD_none];clear hd;go_wp2_with fail
         repeat ((with_reducible refine gX ?_);(first|refine wpX_nil ?_|refine sK ?_|refine sM fun _ _=>?_|refine sL fun _ _=>?_|refine sE fun _ _=>?_);go_wp2_with fail)
         refine⟨⟨k + 1,by go_num,by omega,?_,HCLE.out⟩,by simp [intOf];omega⟩;rw [take_get HS.out,mix_no HKN.out];exact HV.out.kept HCE.out (by simp)
        | some x=>
         obtain⟨ao,ko⟩:=x;rw [hd] at HDY;simp only [Option.map_some,Option.getD_some];clear hd;have HCG:=zh (contains_glob1 55 (fun _ _=>rfl) old.vars (by have:=(HI.out.ok.good m.name old HOLD.out).1.wf.fewv;omega) (fun x=>x.name == s.name && x.len == s.len) (ptr b15) _ _ wE HGO2.out (fun x hx w' hc=>swap2_any s x b15 w' (HB15.out.kept hc (by simp))));go_wp2_with fail
         repeat ((with_reducible refine gX ?_);(first|refine wpX_nil ?_|refine sK ?_|refine sM fun _ _=>?_|refine sL fun _ _=>?_|refine sE fun _ _=>?_);go_wp2_with fail)
         refine HCG.out.mono ?_;rintro _ w8 ⟨rfl,hc8⟩;have HC8:=zh hc8;have HCL8:=zh (HCLE.out.then hc8);have f0':=(HB15.out.kept hc8 (by simp)).cell 0 _ rfl;clear hS f0 n5 n2 hc8;cases hq : (old.vars.any fun x=>x.name == s.name && x.len == s.len) with
         | false=>
          have HQ:=zh hq;clear hq;go_wp2_with fail;refine⟨⟨k + 1,by go_num,by omega,?_,HCL8.out⟩,by simp [intOf];omega⟩;rw [take_get HS.out,mix_no HQ.out];exact(HV.out.kept HCE.out (by simp)).kept HC8.out (by simp)
         | true=>
          obtain⟨y,hy,hyl⟩:=mix_len HI.out HOLD.out HNDV.out (List.mem_of_getElem? HS.out) (l:=m.vars.take k) (fun x hx=>List.mem_of_mem_take hx);obtain⟨x,hx,hxl⟩:=kept_len HI.out HOLD.out hq;have hv8:=(HV.out.kept HCE.out (by simp)).kept HC8.out (by simp);obtain⟨esn,hme,hde⟩:=hv8.map;have hin:=hv8.is s.name;cases hdn : dim s.name with
          | none=>rw [hdn,hy] at hin;cases hin
          | some z=>
           obtain⟨an,kn⟩:=z;rw [hdn] at hin;obtain⟨l',hl',hll,hbn⟩:=hin;rw [hy] at hl';cases hl'
           obtain⟨lo',hlo',hlol,hbo⟩:=HDY.out;rw [hx] at hlo';cases hlo'
           have hko : ko=x.length:=hlol.symm;have hkn : kn=x.length:=by rw [hxl];exact hll.symm.trans hyl
           subst hko;have HLV:=zh (show (Instr.lookup 99 (.map (some bv)) (str s.name) false).run Tryz.prog w8 = .ok (.slice (some ⟨an,0,none⟩) x.length x.length) w8 by
            have hl:=run_getM (P:=Tryz.prog) Tryz.underlying99 Tryz.underlying9 (zero_ints w8) hme s.name;rw [hde,hdn,hkn] at hl;exact hl)
           have hlv:=HLV.out;obtain⟨w9,hcp,hc9,hb9⟩:=copy_ints 3 (hbo.kept (HCR.out.then HCL8.out) (by simp)) hbn (by simp [hyl,hxl]);have HB9:=zh hb9;have HC9:=zh hc9;have HQ:=zh hq;have HX:=zh hx;have HDN:=zh (show dim s.name=some (an,x.length) by rw [hdn,hkn]);have HV8:=zh hv8;have HAN:=zh (show wL.heap.size≤an from(hv8.low (hv8.arr hdn).1).1);clear hq hy hyl hx hxl hv8 hme hde hdn hll hbn hlol hbo hkn hb9 hc9 HLV;go_wp2_with fail;refine⟨⟨k + 1,by go_num,by omega,?_,HCL8.out.trans HC9.out (fun x hx=>.inr (by have:=HAN.out;simp at hx;omega))⟩,by simp [intOf];omega⟩;rw [take_get HS.out,mix_yes HQ.out HX.out];exact HV8.out.put HDN.out HC9.out rfl HB9.out
       ·have hkn : k=m.vars.length:=by omega
        have HVF:=zh (show VarsV wr wL.heap.size bv (swapV W.vs old m m.name) dim arrs by
         have:=HV.out
         rwa [List.take_of_length_le (by omega),mix_all] at this)
        have HCWr:=zh (HCR.out.then HC.out);obtain⟨_,_,aio,cio,avo,cvo,apo,cpo,abo,cbo,bvq,eso,hp3,_⟩:=HPO.out.kept HCWr.out (by simp);have h3:=H3D.out.kept (HC6L.out.then HC.out) (by simp);have q0:=h3.cell 0 _ rfl;have q1:=h3.cell 1 _ rfl;have q2:=h3.cell 2 _ rfl;have q3:=h3.cell 3 _ rfl;have q4:=h3.cell 4 _ rfl;have z0:=hp3.cell 0 _ rfl;have z1:=hp3.cell 1 _ rfl;have z2:=hp3.cell 2 _ rfl;have z3:=hp3.cell 3 _ rfl;have z4:=hp3.cell 4 _ rfl;have z5:=hp3.cell 5 _ rfl;have y0:=hp3.frozen 0;have y1:=hp3.frozen 1;have y2:=hp3.frozen 2;have y3:=hp3.frozen 3;have y4:=hp3.frozen 4;have y5:=hp3.frozen 5;obtain⟨wS,hwS,hcS,hbS⟩:=set6R (str m.name) (.slice ai m.imports.length ci) (.slice av m.vars.length cv) (.slice ap m.procs.length cp) (.slice ab m.body.len cb) (.map (some bv)) hp3;have HCS:=zh hcS;have HBS:=zh hbS;clear h3 hp3 hcS hbS;go_wp2_with fail;go_ret
        rw [← HR.out];have hwr:=HCWr.out.size;have hwl:=HCR.out.size;have hpo:Own (L.pb m.name):=by
         have hqq:=HORD.out.2.2.2.2.2.2 m.name;rw [HOLD.out] at hqq;exact hqq.2.1
        have hpl:L.pb m.name < w.heap.size:=H.out.lt _ (.inl hpo);have hcS:Chg [L.pb m.name] w wS:=(HCWr.out.weak).then HCS.out
        have hbvl:=HBV.out;have hvS:=HVF.out.kept HCS.out (fun x hx=>by
         simp only [List.mem_singleton] at hx;subst hx;refine⟨by omega,fun hm=>?_⟩;have:=(HVF.out.low hm).1;omega)
        have hvS2:VarsV wS w.heap.size bv (swapV W.vs old m m.name) dim arrs:=⟨hvS.map,hvS.inj,hvS.arr,fun ha=>by obtain⟨h1,h2,h3⟩:=hvS.low ha;exact⟨by omega,h2,h3⟩,hvS.is⟩;have hgl:=fun x hx=>(HGM.out x hx)
        refine⟨_,rfl,rfl,⟨.inl H.out.own,fun x hx=>?_,fun x hx hx2=>?_,fun q mq hq=>?_,H.out.few,.inr ⟨_,Has.swap HHAS.out (fun x hx=>⟨H.out.dis x hx,fun hg=>(hgl x hg).2 hx⟩) (fun x hx=>?_) (Nat.le_refl _) HOLD.out HGO.out.few HORD.out hcS HBS.out (HM.out.kept hcS (fun x hx hg=>?_)) hvS2 (by omega) (fun x hx=>.inl hx) (fun x h1 h2=>.inr ⟨h1,h2⟩)⟩⟩,⟨_,hcS,fun x hx=>by simp only [List.mem_singleton] at hx;subst hx;exact hpo⟩⟩
        ·have hs:=hcS.size
         rcases hx with(hx|hx)|(hx|hx)
         ·have:=H.out.lt x (.inl hx);omega
         ·exact hx.2
         ·have:=H.out.lt x (.inr hx);omega
         ·have:=(hgl x hx).1;omega
        ·rcases hx with hx|hx <;> rcases hx2 with h2|h2
         ·exact H.out.dis x hx h2
         ·exact(hgl x h2).2 hx
         ·have:=H.out.lt x (.inr h2);omega
         ·have:=(hgl x h2).1;omega
        ·simp only [setM] at hq
         split at hq
         ·next e=>cases hq;exact⟨HGO.out,e.symm⟩
         ·exact H.out.good q mq hq
        ·rcases hx with hx|hx|hx
         ·exact H.out.lt x (.inl hx)
         ·exact H.out.lt x (.inr hx)
         ·exact(hgl x hx).1
        ·simp only [List.mem_singleton] at hx
         subst hx;exact(hgl _ hg).2 hpo
end Go.Proofs.YtechofppmnnomaaGreatDoor
namespace Go.Mq.Run
open Go Go.RowKit Go.Mq Go.Mq.Tree Go.Mq.Sym
open Go.Mq.Check (check Out)
def okR:Out→Bool
 | .fine=>true
 | _=>false
theorem ran_fact : (match parse [109,111,100,117,108,101,32,109,59,32,118,97,114,32,120,58,32,105,110,116,59,32,112,114,111,99,32,102,42,40,97,41,59,32,98,101,103,105,110,32,120,32,58,61,32,120,32,43,32,97,59,32,114,101,116,117,114,110,32,120,32,42,32,50,59,32,101,110,100,59,32,98,101,103,105,110,32,119,114,105,116,101,32,102,40,51,41,59,32,101,110,100,46] with
  | .ok m=>match loadW 30 Wd.zero m 100 with
   | some r=>r.2.1 == 1 && r.2.2.1 == [6] && okR r.2.2.2 && match callW 30 r.1 [109] [102] [4] 100 with
    | some c=>c.2.1 == 1 && c.2.2.2.1 == 14 && okR c.2.2.2.2
    | none=>false
   | none=>false
  | .bad _ _=>false)=true:=by
 decide +kernel
theorem ran_at : ∃ m,parse [109,111,100,117,108,101,32,109,59,32,118,97,114,32,120,58,32,105,110,116,59,32,112,114,111,99,32,102,42,40,97,41,59,32,98,101,103,105,110,32,120,32,58,61,32,120,32,43,32,97,59,32,114,101,116,117,114,110,32,120,32,42,32,50,59,32,101,110,100,59,32,98,101,103,105,110,32,119,114,105,116,101,32,102,40,51,41,59,32,101,110,100,46] = .ok m ∧ ∃ W1 W2 out,loadW 30 Wd.zero m 100=some (W1,1,[6],.fine)∧callW 30 W1 [109] [102] [4] 100=some (W2,1,out,14,.fine):=by
 have h:=ran_fact;split at h
 ·rename_i m hm
  refine⟨m,hm,?_⟩;split at h
  ·rename_i r hr
   obtain⟨W1,way,out,o⟩:=r;simp only [Bool.and_eq_true,beq_iff_eq] at h;obtain⟨⟨⟨rfl,rfl⟩,ho⟩,h⟩:=h;split at h
   ·rename_i c hc
    obtain⟨W2,way2,out2,n,o2⟩:=c;simp only [Bool.and_eq_true,beq_iff_eq] at h;obtain⟨⟨rfl,rfl⟩,ho2⟩:=h;refine⟨W1,W2,out2,?_,?_⟩
    ·cases o with
     | fine=>exact hr
     | plain e=>cases ho
     | at_ e p=>cases ho
    ·cases o2 with
     | fine=>exact hc
     | plain e=>cases ho2
     | at_ e p=>cases ho2
   ·cases h
  ·cases h
 ·cases h
theorem WAt.new {w:World} {bw:Nat} (h:Blk w bw #[.map none,nils] 40):WAt w (fun x=>x=bw) (fun _=>False) bw Wd.zero:=
 ⟨rfl,fun x hx=>by rcases hx with rfl|hx;exact h.lt;exact hx.elim,fun _ _ h=>h,fun _ _ h=>(by cases h),by simp [Wd.zero],.inl ⟨rfl,h⟩⟩
theorem ChgO.new {w w1 w2:World} {Own:Nat→Prop} (h:ChgO Own w1 w2) (hc:Chg [] w w1) (hO : ∀ x,Own x→w.heap.size≤x):Chg [] w w2:=by
 obtain⟨Z,hz,hZ⟩:=h;exact hc.trans hz (fun x hx=>.inr (hO x (hZ x hx)))
end Go.Mq.Run
namespace Go.Proofs.YtechofppmnnomaaGreatDoor
open Go Go.RowKit Go.Mq Go.Mq.Tree Go.Mq.Sym Go.Mq.Run
open Go.Mq.Check (check Out)
set_option maxRecDepth 100000
set_option maxHeartbeats 4000000
theorem ran_any (w:World) (B:Nat) (hL:Laid w B):Calls Tryz.prog 9 #[] w (Holds w):=by
 obtain⟨m,hm,W1,W2,out,hl,hcl⟩:=ran_at;have hgood:=good_of (t:=[109,111,100,117,108,101,32,109,59,32,118,97,114,32,120,58,32,105,110,116,59,32,112,114,111,99,32,102,42,40,97,41,59,32,98,101,103,105,110,32,120,32,58,61,32,120,32,43,32,97,59,32,114,101,116,117,114,110,32,120,32,42,32,50,59,32,101,110,100,59,32,98,101,103,105,110,32,119,114,105,116,101,32,102,40,51,41,59,32,101,110,100,46]) (by decide) hm;have hP:=parse_any [109,111,100,117,108,101,32,109,59,32,118,97,114,32,120,58,32,105,110,116,59,32,112,114,111,99,32,102,42,40,97,41,59,32,98,101,103,105,110,32,120,32,58,61,32,120,32,43,32,97,59,32,114,101,116,117,114,110,32,120,32,42,32,50,59,32,101,110,100,59,32,98,101,103,105,110,32,119,114,105,116,101,32,102,40,51,41,59,32,101,110,100,46] (by decide) w B hL;rw [hm] at hP;have HP:=zh hP;have HL1:=zh hl;have HC1:=zh hcl;have HGO:=zh hgood;clear hP hm hl hcl hL hgood
 go_enter Tryz.func9,Tryz.ntmps9
 go_wp2_with fail;refine HP.out.mono ?_;rintro _ w1 ⟨hc1,v,rfl,hmod⟩;have HMD:=zh hmod;obtain⟨aia,cia,ava,cva,apa,cpa,aba,cba,rfl,hgv,hpv⟩:=mod_parts hmod;have hz:=Blk.new w1 #[str [],nils,nils,nils,nils] 32;obtain⟨wA,hwA⟩ : ∃ w',w1.alloc (.cells #[str [],nils,nils,nils,nils] 32)=w':=⟨_,rfl⟩
 rw [hwA] at hz;have hcA:Chg [] w1 wA:=by rw [← hwA];exact(Chg.refl _ _).alloc _
 obtain⟨wF,hwF,hcF,hbF⟩:=set5 (str m.name) (.slice aia m.imports.length cia) (.slice ava m.vars.length cva) (.slice apa m.procs.length cpa) (.slice aba m.body.len cba) hz;have hcG:Chg [] w1 wF:=hcA.trans hcF (fun x hx=>.inr (by simp at hx;omega));have z0:=hz.cell 0 _ rfl;have z1:=hz.cell 1 _ rfl;have z2:=hz.cell 2 _ rfl;have z3:=hz.cell 3 _ rfl;have z4:=hz.cell 4 _ rfl;have y0:=hz.frozen 0;have y1:=hz.frozen 1;have y2:=hz.frozen 2;have y3:=hz.frozen 3;have y4:=hz.frozen 4;obtain⟨wW,hwW⟩ : ∃ x,wF.alloc (.cells #[.map none,nils] 40)=x:=⟨_,rfl⟩
 have hbW:Blk wW wF.heap.size #[.map none,nils] 40:=by rw [← hwW];exact Blk.new wF _ _
 have hcW:Chg [] wF wW:=by rw [← hwW];exact(Chg.refl _ _).alloc _
 have hsW : wW.heap.size=wF.heap.size + 1:=by rw [← hwW];simp
 have hcwW:Chg [] w wW:=hc1.then (hcG.then hcW)
 have hx:=hbF.kept hcW (by simp);have x0:=hx.cell 0 _ rfl;have x1:=hx.cell 1 _ rfl;have x2:=hx.cell 2 _ rfl;have x3:=hx.cell 3 _ rfl;have x4:=hx.cell 4 _ rfl;have hML:ModAt wW (New w w1) m (.agg #[str m.name,.slice aia m.imports.length cia,.slice ava m.vars.length cva,.slice apa m.procs.length cpa,.slice aba m.body.len cba]):=(HMD.out.kept (hcG.then hcW) (by simp)).mono (fun x hx=>hx);have hs1:=hc1.size;have hsG:=hcG.size;have HLD:=zh (load_any 30 (WAt.new hbW) hML (fun x hx=>⟨by have:=hx.2;omega,fun e=>by have:=hx.2;omega⟩) HGO.out (by decide : (100:Nat)≤9223372036854775807) HL1.out);have HCW:=zh hcwW;have HSW:=zh (show w.heap.size≤wF.heap.size∧wW.heap.size=wF.heap.size + 1 by omega);clear hc1 hz hcA hcF hbF hcG hbW hcW hsW hcwW hML hs1 hsG hx hmod hgv hpv;go_wp2_with fail;clear hwA hwF hwW z0 z1 z2 z3 z4 y0 y1 y2 y3 y4 x0 x1 x2 x3 x4;refine HLD.out.mono ?_;rintro _ w2 ⟨ve,vo,rfl,hev,hvo,hwat,hch⟩;obtain⟨ov,rfl,hov,_⟩:=hev;obtain⟨ea,ec,rfl⟩:=slice_of_owns hov;simp only [ErrV] at hvo;subst hvo;have hc02:Chg [] w w2:=hch.new HCW.out (fun x hx=>by have:=HSW.out;omega);obtain⟨wI,hwI⟩ : ∃ x,w2.alloc (.cells #[num 0,nils] 43)=x:=⟨_,rfl⟩
 have hbI:Blk wI w2.heap.size #[num 0,nils] 43:=by rw [← hwI];exact Blk.new w2 _ _
 have hcI:Chg [] w2 wI:=by rw [← hwI];exact(Chg.refl _ _).alloc _
 have i0:=hbI.cell 0 _ rfl;have i1:=hbI.cell 1 _ rfl;have j0:=hbI.frozen 0;have j1:=hbI.frozen 1;obtain⟨wJ,hwJ,hbJ,hcJ⟩:=setE 1 (.slice ea 1 ec) hbI;have hc2J:Chg [] w2 wJ:=hcI.trans hcJ (fun x hx=>.inr (by simp at hx;omega));have k0:=hbJ.cell 0 _ rfl;have k1:=hbJ.cell 1 _ rfl;obtain⟨wK,hwK⟩ : ∃ x,wJ.alloc (.cells #[num 6] i64T)=x:=⟨_,rfl⟩
 have hbK:Blk wK wJ.heap.size #[num 6] i64T:=by rw [← hwK];exact Blk.new wJ _ _
 have hcK:Chg [] wJ wK:=by rw [← hwK];exact(Chg.refl _ _).alloc _
 have hc2K:Chg [] w2 wK:=hc2J.then hcK
 have HEQ:=zh (show Calls Tryz.prog 18 #[.slice ea 1 ec,.slice (some ⟨wJ.heap.size,0,none⟩) 1 1] wK (fun e w'=>e = .returned (.bool true)∧Chg [] wK w') from by
  obtain⟨a',c',he,_,hr⟩:=Row.of_owns (F:=fun _=>True) hov (fun _ _=>trivial);cases he
  exact equal_any [6] [6] (by decide) (by decide) _ _ _ 1 (fun _=>True) (fun _=>True) wK (hr.kept hc2K (by simp)) ⟨fun _=>⟨_,0,rfl,fun i x hx=>by rw [Nat.zero_add];exact hbK.cell i x (by simpa using hx)⟩,fun _ _ _=>trivial⟩)
 have HWAT:=zh hwat;have H02:=zh hc02;have H2K:=zh hc2K;have HBK:=zh (hbJ.kept hcK (by simp));clear hov hch hwat hc02 hbI hcI hbJ hcJ hc2J hbK hcK hc2K;go_wp2_with fail;refine HEQ.out.mono ?_;rintro _ w5 ⟨rfl,hc5⟩;clear hwI hwJ hwK i0 i1 j0 j1 k0 k1;obtain⟨wL,hwL⟩ : ∃ x,w5.alloc (.cells #[num 4] i64T)=x:=⟨_,rfl⟩
 have hbL:Blk wL w5.heap.size #[num 4] i64T:=by rw [← hwL];exact Blk.new w5 _ _
 have hcL:Chg [] w5 wL:=by rw [← hwL];exact(Chg.refl _ _).alloc _
 have h2L:Chg [] w2 wL:=H2K.out.then (hc5.then hcL)
 have hs5 : w2.heap.size≤w5.heap.size:=(H2K.out.then hc5).size;have hsL:=hbL.lt;have HWC:=zh (show Calls Tryz.prog 31 #[ptr wF.heap.size,.string ⟨#[109]⟩,.string ⟨#[102]⟩,.slice (some ⟨w5.heap.size,0,none⟩) 1 1,num 100] wL _ from
  wcall_any 30 (q:=[109]) (n:=[102]) (args:=[4]) (fuel:=100) (a:=some ⟨w5.heap.size,0,none⟩) (c:=1) (HWAT.out.kept h2L (by simp)) (Ga:=fun x=>x=w5.heap.size) ⟨fun _=>⟨_,0,rfl,fun i x hx=>by rw [Nat.zero_add];exact hbL.cell i x (by simpa using hx)⟩,fun _ p hp=>by cases hp;rfl⟩ (fun x hx=>⟨by omega,fun ho=>by
   rcases ho with e|e
   ·have:=HSW.out;have:=H02.out.size;have:=HWAT.out.lt _ (.inl (.inl rfl));omega
   ·omega⟩) (by decide) (by decide) HC1.out)
 have hbe:=HBK.out.kept (hc5.then hcL) (by simp);have HBE:=zh hbe;have HL2:=zh h2L;clear hc5 hbL hcL h2L hs5 hsL hbe;go_wp2_with fail;refine HWC.out.mono ?_;rintro _ w9 ⟨ve,vo,rfl,hev,hvo,hwat,hch⟩;obtain⟨ov,rfl,hov,_⟩:=hev;obtain⟨fa,fc,rfl⟩:=slice_of_owns hov;simp only [ErrV] at hvo;subst hvo;clear hwL;have hbe9:Blk w9 w2.heap.size #[num 1,.slice ea 1 ec] 43:=by
  obtain⟨Z,hz,hZ⟩:=hch;refine HBE.out.kept hz (fun hm=>?_);rcases hZ _ hm with e|e
  ·have:=HSW.out;have:=HWAT.out.lt _ (.inl (.inl rfl));omega
  ·omega
 have i0:=hbe9.cell 0 _ rfl;have i1:=hbe9.cell 1 _ rfl;have j0:=hbe9.frozen 0;have j1:=hbe9.frozen 1;obtain⟨wS,hwS,hbS,hcS⟩:=setE 1 (.slice fa out.length fc) hbe9;have k0:=hbS.cell 0 _ rfl;have k1:=hbS.cell 1 _ rfl;have HFIN:=zh (show Chg [] w wS from(hch.new (H02.out.then HL2.out) (fun x hx=>by
  rcases hx with e|e
  ·have:=HSW.out;omega
  ·have:=HSW.out;omega)).trans hcS (fun x hx=>.inr (by simp at hx;have:=H02.out.size;omega)))
 clear hbe9 hbS hcS hov hwat hch;simp only;go_wp2_with fail;go_ret
 exact⟨rfl,HFIN.out⟩
end Go.Proofs.YtechofppmnnomaaGreatDoor
namespace Go.Proofs.YtechofppmnnomaaGreatDoor
open Go Go.RowKit Go.Mq Go.Mq.Tree Go.Mq.Sym Go.Mq.Run
open Go.Mq.Check (check Out)
set_option maxRecDepth 100000
set_option maxHeartbeats 4000000
theorem errV_kept {w w':World} {o:Out} {v:Value} {Z:List Nat} (h:ErrV w o v) (hc:Chg Z w w') (hZ : ∀ x∈Z,∃ a b t,Blk w x #[.map a,b] t):ErrV w' o v:=by
 cases o with
 | fine=>exact h
 | plain n=>exact h
 | at_ en p=>
  obtain⟨b,h1,h2⟩:=h;refine⟨b,h1,h2.kept hc fun hm=>?_⟩;obtain⟨x,y,t,hb⟩:=hZ b hm
  unfold Blk at h2 hb
  rw [hb] at h2;simp at h2
end Go.Proofs.YtechofppmnnomaaGreatDoor
namespace Go.Proofs.YtechofppmnnomaaGreatDoor
open Go Go.RowKit Go.Mq Go.Mq.Tree Go.Mq.Sym Go.Mq.Run
open Go.Mq.Check (check Out)
set_option maxRecDepth 100000
set_option maxHeartbeats 4000000
def Acted (w:World) (Own G:Nat→Prop) (bw:Nat) (r:Wd × Nat × List Int × Int × Int) (e:Ending) (w':World):Prop:=
 ∃ (ve:Value) (Own' G':Nat→Prop),e = .returned (.tuple #[ve,num r.2.2.2.1,num r.2.2.2.2])∧EndV w' w.heap.size r.2.1 r.2.2.1 ve∧WAt w' Own' G' bw r.1∧(∀ x,Own' x→Own x∨w.heap.size≤x)∧(∀ x,G' x→G x∨w.heap.size≤x)∧ChgO Own w w'
theorem act_call {w:World} {Own G F:Nat→Prop} {bw:Nat} {W:Wd} {x:Ac} {g fuel:Nat} {r:Wd × Nat × List Int × Int × Out} (h:WAt w Own G bw W) (hE:ErrLaid w) (hEO : ¬ Own 0) (ha:Row w F x.ad (ints x.args)) (hF : ∀ y,F y→y < w.heap.size∧¬ Own y) (h10 : x.args.length≤10) (hfu : fuel≤1000000) (hw : x.what=1) (hr : callW g W x.name x.proc x.args fuel=some r) :
  Calls Tryz.prog 23 #[ptr bw,.agg #[num x.what,str x.text,str x.name,str x.proc,.slice x.ad x.args.length x.cap],num fuel] w (Acted w Own G bw (r.1,r.2.1,r.2.2.1,r.2.2.2.1,codeO r.2.2.2.2)):=by
 rw [hw];obtain⟨w4,hw4⟩ : ∃ y,w.alloc (.cells #[num 1,str x.text,str x.name,str x.proc,.slice x.ad x.args.length x.cap] 57)=y:=⟨_,rfl⟩
 have hb4:Blk w4 w.heap.size #[num 1,str x.text,str x.name,str x.proc,.slice x.ad x.args.length x.cap] 57:=by rw [← hw4];exact Blk.new w _ _
 have hc4:Chg [] w w4:=by rw [← hw4];exact(Chg.refl _ _).alloc _
 have hs4 : w4.heap.size=w.heap.size + 1:=by rw [← hw4];simp
 obtain⟨w6,hw6⟩ : ∃ y,w4.alloc (.cells #[num 0,nils] 43)=y:=⟨_,rfl⟩
 have hb6:Blk w6 w4.heap.size #[num 0,nils] 43:=by rw [← hw6];exact Blk.new w4 _ _
 have hc6:Chg [] w4 w6:=by rw [← hw6];exact(Chg.refl _ _).alloc _
 have hs6 : w6.heap.size=w4.heap.size + 1:=by rw [← hw6];simp
 have hb46:=hb4.kept hc6 (by simp);have x0:=hb46.cell 0 _ rfl;have x2:=hb46.cell 2 _ rfl;have x3:=hb46.cell 3 _ rfl;have x4:=hb46.cell 4 _ rfl;have hcw:=hc4.then hc6
 have HCA:=zh (wcall_any g (a:=x.ad) (c:=x.cap) (h.kept hcw (by simp)) (Ga:=F) (ha.kept hcw (by simp)) (fun y hy=>⟨by have:=(hF y hy).1;omega,(hF y hy).2⟩) (by omega) (by omega) hr);have HB6:=zh hb6;have HC6:=zh hcw;have HSZ:=zh (show w4.heap.size=w.heap.size + 1∧w6.heap.size=w.heap.size + 2 by omega);have H:=zh h;have HER:=zh (hE.kept hcw (by simp));have HEO:=zh hEO;clear h ha hF hb4 hc4 hs4 hb6 hc6 hs6 hb46 hcw hr hE hEO
 go_enter Tryz.func23,Tryz.ntmps23
 go_wp2_with fail;refine HCA.out.mono ?_;rintro _ w7 ⟨ve,vo,rfl,hev,hvo,hwat,hch⟩;obtain⟨ov,rfl,hov,hof⟩:=hev;obtain⟨ea,ec,rfl⟩:=slice_of_owns hov;obtain⟨Z,hz,hZ⟩:=hch;have hlt:=fun y (hy:Own y)=>H.out.lt y (.inl hy)
 have hb67:=HB6.out.kept hz (fun hm=>by have:=hlt _ (hZ _ hm);have:=HSZ.out;omega);obtain⟨w8,hw8⟩ : ∃ y,w7.alloc (.cells #[num 0,nils] 43)=y:=⟨_,rfl⟩
 have hb8:Blk w8 w7.heap.size #[num 0,nils] 43:=by rw [← hw8];exact Blk.new w7 _ _
 have hc8:Chg [] w7 w8:=by rw [← hw8];exact(Chg.refl _ _).alloc _
 have i0:=hb8.cell 0 _ rfl;have i1:=hb8.cell 1 _ rfl;have j0:=hb8.frozen 0;have j1:=hb8.frozen 1;obtain⟨w9,hw9,hb9,hc9⟩:=setE r.2.1 (.slice ea r.2.2.1.length ec) hb8;have hc79:Chg [] w7 w9:=hc8.trans hc9 (fun x hx=>.inr (by simp at hx;omega));obtain⟨wE,hwE⟩ : ∃ y,y=w9.drew:=⟨_,rfl⟩
 have hc9E:Chg [] w9 wE:=by rw [hwE];exact(Chg.refl [] w9).drew
 have hc7E:=hc79.then hc9E
 have hb9E:=hb9.kept hc9E (by simp);have k0:=hb9E.cell 0 _ rfl;have k1:=hb9E.cell 1 _ rfl;have hne : w7.heap.size≠w4.heap.size:=by have:=hz.size;have:=HSZ.out;omega
 have HNE:=zh hne;have Z1:=zh (Zone.of (X:=[w4.heap.size]) (w0:=wE) k0 (by simpa using hne));have Z2:=zh (Zone.of (X:=[w4.heap.size]) (w0:=wE) k1 (by simpa using hne));have herr:=((HER.out.kept hz (fun hm=>HEO.out (hZ _ hm))).kept hc7E (by simp));have HT:=zh (tell_out herr (errV_kept hvo hc7E (fun x hx=>by cases hx)));have HB67:=zh (hb67.kept hc7E (by simp));have HZ:=zh hZ;have HZC:=zh hz;have HC7E:=zh hc7E;have HOV:=zh hov;have HOF:=zh hof;have HWAT:=zh hwat;clear hz hZ hlt hb67 hb8 hc8 hb9 hc9 hc79 hc9E hc7E hb9E herr hvo hwat hov hof hne;go_wp2_with fail;refine wp_region_L [w4.heap.size] rfl (by decide +kernel) ?_;rw [← hwE];clear hw4 hw6 hw8 hw9 hwE i0 i1 j0 j1 x0 x2 x3 x4;have hS:Chg [w4.heap.size] wE wE:=Chg.refl _ _
 repeat ((with_reducible refine gX ?_);(first|refine wpX_nil ?_|refine sK ?_|refine sM fun _ _=>?_|refine sL (hz:=by first|exact Z1.out|exact Z2.out) fun _ _=>?_|refine sE fun _ _=>?_);go_wp2_with fail)
 refine HT.out.mono ?_;rintro _ wT ⟨rfl,hcT⟩;have HCT:=zh hcT;clear hcT hS;have hb6T:=HB67.out.kept HCT.out (by simp);have z0:=hb6T.cell 0 _ rfl;have z1:=hb6T.cell 1 _ rfl;have y0:=hb6T.frozen 0;have y1:=hb6T.frozen 1;obtain⟨wS,hwS,hbS,hcS⟩:=setE r.2.1 (.slice ea r.2.2.1.length ec) hb6T;have HBS:=zh hbS;have HCS:=zh hcS;clear hb6T hbS hcS;go_wp2_with fail;refine And.intro HCT.out.weak ?_;have hS:Chg [w4.heap.size] wE wT:=HCT.out.weak
 repeat ((with_reducible refine gX ?_);(first|refine wpX_nil ?_|refine sK ?_|refine sM fun _ _=>?_|refine sL (hz:=by first|exact Z1.out|exact Z2.out) fun _ _=>?_|refine sE fun _ _=>?_);go_wp2_with fail)
 clear hS hwS;refine And.intro (HCT.out.weak.then HCS.out) ?_;have hS:Chg [w4.heap.size] wE wS:=HCT.out.weak.then HCS.out
 have q0:=HBS.out.cell 0 _ rfl;have q1:=HBS.out.cell 1 _ rfl
 repeat ((with_reducible refine gX ?_);(first|refine wpX_nil ?_|refine sK ?_|refine sM fun _ _=>?_|refine sL (hz:=by first|exact Z1.out|exact Z2.out) fun _ _=>?_|refine sE fun _ _=>?_);go_wp2_with fail)
 go_wp2_with fail;refine bodyPost_ret (v:=.tuple #[.agg #[num r.2.1,.slice ea r.2.2.1.length ec],num r.2.2.2.1,num (codeO r.2.2.2.2)]) (by simp [results,Tryz.results23,go_sem,q0,q1]) rfl ?_;have hsz:=HSZ.out;have hTS:Chg [w4.heap.size] w7 wS:=(HC7E.out.weak.then HCT.out.weak).then HCS.out
 refine⟨_,More Own w6 w7,G,rfl,⟨_,rfl,owns_kept HOV.out hTS (fun y hy hm=>?_),fun y hy=>?_⟩,HWAT.out.kept hTS (fun y hy=>?_),fun y hy=>?_,fun y hy=>.inl hy,Z,((HC6.out.weak.then HZC.out).then HC7E.out.weak).trans (HCT.out.weak.then HCS.out) (fun y hy=>.inr ?_),HZ.out⟩
 ·simp only [List.mem_singleton] at hm
  have:=HOF.out y hy;omega
 ·have:=HOF.out y hy
  omega
 ·simp only [List.mem_singleton] at hy
  subst hy;refine⟨fun ho=>?_,fun hg=>?_⟩
  ·rcases ho with ho|ho
   ·have:=H.out.lt _ (.inl ho);omega
   ·omega
  ·have:=H.out.lt _ (.inr hg);omega
 ·rcases hy with hy|hy
  ·exact .inl hy
  ·exact .inr (by omega)
 ·simp only [List.mem_singleton] at hy
  omega
end Go.Proofs.YtechofppmnnomaaGreatDoor
namespace Go.Proofs.YtechofppmnnomaaGreatDoor
open Go Go.RowKit Go.Mq Go.Mq.Tree Go.Mq.Sym Go.Mq.Run
open Go.Mq.Check (check Out)
set_option maxRecDepth 100000
set_option maxHeartbeats 4000000
theorem act_bad {w:World} {Own G:Nat→Prop} {bw B fuel en p:Nat} {W:Wd} {x:Ac} (h:WAt w Own G bw W) (hL:Laid w B) (hE:ErrLaid w) (hw : x.what≠1) (ht : x.text.length≤1000) (hp : parse x.text = .bad en p) :
  Calls Tryz.prog 23 #[ptr bw,.agg #[num x.what,str x.text,str x.name,str x.proc,.slice x.ad x.args.length x.cap],num fuel] w (Acted w Own G bw (W,0,[],0,en)):=by
 obtain⟨wh,hwh⟩ : ∃ y,y=x.what:=⟨_,rfl⟩
 rw [← hwh] at hw ⊢;have hq : (wh == 1)=false:=by simpa using hw
 obtain⟨w4,hw4⟩ : ∃ y,w.alloc (.cells #[num wh,str x.text,str x.name,str x.proc,.slice x.ad x.args.length x.cap] 57)=y:=⟨_,rfl⟩
 have hb4:Blk w4 w.heap.size #[num wh,str x.text,str x.name,str x.proc,.slice x.ad x.args.length x.cap] 57:=by rw [← hw4];exact Blk.new w _ _
 have hc4:Chg [] w w4:=by rw [← hw4];exact(Chg.refl _ _).alloc _
 have hs4 : w4.heap.size=w.heap.size + 1:=by rw [← hw4];simp
 obtain⟨w6,hw6⟩ : ∃ y,w4.alloc (.cells #[num 0,nils] 43)=y:=⟨_,rfl⟩
 have hb6:Blk w6 w4.heap.size #[num 0,nils] 43:=by rw [← hw6];exact Blk.new w4 _ _
 have hc6:Chg [] w4 w6:=by rw [← hw6];exact(Chg.refl _ _).alloc _
 have hs6 : w6.heap.size=w4.heap.size + 1:=by rw [← hw6];simp
 have hb46:=hb4.kept hc6 (by simp);have x0:=hb46.cell 0 _ rfl;have x1:=hb46.cell 1 _ rfl;have hcw:=hc4.then hc6
 have hP:=parse_any x.text (by omega) w6 B (hL.kept hcw (by simp));rw [hp] at hP;have HP:=zh hP;have HB6:=zh hb6;have HC6:=zh hcw;have HSZ:=zh (show w4.heap.size=w.heap.size + 1∧w6.heap.size=w.heap.size + 2 by omega);have H:=zh h;have HER:=zh (hE.kept hcw (by simp));clear h hb4 hc4 hs4 hb6 hc6 hs6 hb46 hcw hE hL hP hp hw hwh
 go_enter Tryz.func23,Tryz.ntmps23
 go_wp2_with fail;refine HP.out.mono ?_;rintro _ w1 ⟨hc1,b,rfl,_,hbe⟩;have HC1:=zh hc1;have hz:=Blk.new w1 #[str [],nils,nils,nils,nils] 32;obtain⟨wA,hwA⟩ : ∃ w',w1.alloc (.cells #[str [],nils,nils,nils,nils] 32)=w':=⟨_,rfl⟩
 rw [hwA] at hz;have hcA:Chg [] w1 wA:=by rw [← hwA];exact(Chg.refl _ _).alloc _
 obtain⟨wF,hwF,hcF,hbF⟩:=set5 (str []) (nils) (nils) (nils) (nils) hz;have hca:Chg [] w1 wF:=hcA.trans hcF (fun x hx=>.inr (by simp at hx;omega));have HCa:=zh hca;have z0:=hz.cell 0 _ rfl;have z1:=hz.cell 1 _ rfl;have z2:=hz.cell 2 _ rfl;have z3:=hz.cell 3 _ rfl;have z4:=hz.cell 4 _ rfl;have y0:=hz.frozen 0;have y1:=hz.frozen 1;have y2:=hz.frozen 2;have y3:=hz.frozen 3;have y4:=hz.frozen 4;have HT:=zh (tell_out (o:=.at_ en p) (v:=.iface 140 (ptr b)) (w:=wF) ((HER.out.kept hc1 (by simp)).kept hca (by simp)) ⟨b,rfl,hbe.kept hca (by simp)⟩);have HB6F:=zh ((HB6.out.kept hc1 (by simp)).kept hca (by simp));clear hcA hcF hbF hz hc1 hca hbe;go_wp2_with fail;clear hw4 hw6 hwA hwF z0 z1 z2 z3 z4 y0 y1 y2 y3 y4 x0 x1;refine HT.out.mono ?_;rintro _ wT ⟨rfl,hcT⟩;have HCT:=zh hcT;have hb6T:=HB6F.out.kept hcT (by simp);have z0:=hb6T.cell 0 _ rfl;have z1:=hb6T.cell 1 _ rfl;have y0:=hb6T.frozen 0;have y1:=hb6T.frozen 1;obtain⟨wS,hwS,hbS,hcS⟩:=setE 0 nils hb6T;have HBS:=zh hbS;have HCS:=zh hcS;have q0:=hbS.cell 0 _ rfl;have q1:=hbS.cell 1 _ rfl;clear hb6T hbS hcS hcT;go_wp2_with fail;refine bodyPost_ret (v:=.tuple #[.agg #[num 0,nils],num 0,num en]) (by simp [results,Tryz.results23,go_sem,q0,q1,codeO]) rfl ?_;have hsz:=HSZ.out;have hTS:Chg [] w wS:=(HC6.out.then (HC1.out.then (HCa.out.then HCT.out))).trans HCS.out (fun y hy=>.inr (by simp at hy;omega));exact⟨_,Own,G,rfl,⟨nils,rfl,⟨rfl,.inl ⟨rfl,rfl⟩⟩,From.nil _⟩,H.out.kept hTS (by simp),fun y hy=>.inl hy,fun y hy=>.inl hy,.of hTS⟩
end Go.Proofs.YtechofppmnnomaaGreatDoor
namespace Go.Proofs.YtechofppmnnomaaGreatDoor
open Go Go.RowKit Go.Mq Go.Mq.Tree Go.Mq.Sym Go.Mq.Run
open Go.Mq.Check (check Out)
set_option maxRecDepth 100000
set_option maxHeartbeats 4000000
theorem act_swap {w:World} {Own G:Nat→Prop} {bw B fuel:Nat} {W:Wd} {x:Ac} {m:Mod} (h:WAt w Own G bw W) (hI:Inv W) (hL:Laid w B) (hE:ErrLaid w) (hEO : ¬ Own 0) (hw : x.what=2) (ht : x.text.length≤1000) (hp : parse x.text = .ok m) :
  Calls Tryz.prog 23 #[ptr bw,.agg #[num x.what,str x.text,str x.name,str x.proc,.slice x.ad x.args.length x.cap],num fuel] w (Acted w Own G bw ((swapW W m).1,0,[],0,codeO (swapW W m).2)):=by
 rw [hw];obtain⟨w4,hw4⟩ : ∃ y,w.alloc (.cells #[num 2,str x.text,str x.name,str x.proc,.slice x.ad x.args.length x.cap] 57)=y:=⟨_,rfl⟩
 have hb4:Blk w4 w.heap.size #[num 2,str x.text,str x.name,str x.proc,.slice x.ad x.args.length x.cap] 57:=by rw [← hw4];exact Blk.new w _ _
 have hc4:Chg [] w w4:=by rw [← hw4];exact(Chg.refl _ _).alloc _
 have hs4 : w4.heap.size=w.heap.size + 1:=by rw [← hw4];simp
 obtain⟨w6,hw6⟩ : ∃ y,w4.alloc (.cells #[num 0,nils] 43)=y:=⟨_,rfl⟩
 have hb6:Blk w6 w4.heap.size #[num 0,nils] 43:=by rw [← hw6];exact Blk.new w4 _ _
 have hc6:Chg [] w4 w6:=by rw [← hw6];exact(Chg.refl _ _).alloc _
 have hs6 : w6.heap.size=w4.heap.size + 1:=by rw [← hw6];simp
 have hb46:=hb4.kept hc6 (by simp);have x0:=hb46.cell 0 _ rfl;have x1:=hb46.cell 1 _ rfl;have hcw:=hc4.then hc6
 have hP:=parse_any x.text (by omega) w6 B (hL.kept hcw (by simp));rw [hp] at hP;have HP:=zh hP;have HGO:=zh (good_of (by omega) hp);have HB4:=zh hb46;have HB6:=zh hb6;have HC6:=zh hcw;have HSZ:=zh (show w4.heap.size=w.heap.size + 1∧w6.heap.size=w.heap.size + 2 by omega);have H:=zh h;have HER:=zh hE;have HL:=zh hL;have HI:=zh hI;have HEO:=zh hEO;clear h hb4 hc4 hs4 hb6 hc6 hs6 hb46 hcw hE hL hP hp hw hI hEO
 go_enter Tryz.func23,Tryz.ntmps23
 go_wp2_with fail;refine HP.out.mono ?_;rintro _ w1 ⟨hc1,v,rfl,hmod⟩;have HMD:=zh hmod;obtain⟨aia,cia,ava,cva,apa,cpa,aba,cba,rfl,hgv,hpv⟩:=mod_parts hmod;have hz:=Blk.new w1 #[str [],nils,nils,nils,nils] 32;obtain⟨wA,hwA⟩ : ∃ w',w1.alloc (.cells #[str [],nils,nils,nils,nils] 32)=w':=⟨_,rfl⟩
 rw [hwA] at hz;have hcA:Chg [] w1 wA:=by rw [← hwA];exact(Chg.refl _ _).alloc _
 obtain⟨wF,hwF,hcF,hbF⟩:=set5 (str m.name) (.slice aia m.imports.length cia) (.slice ava m.vars.length cva) (.slice apa m.procs.length cpa) (.slice aba m.body.len cba) hz;have hca:Chg [] w1 wF:=hcA.trans hcF (fun x hx=>.inr (by simp at hx;omega));have z0:=hz.cell 0 _ rfl;have z1:=hz.cell 1 _ rfl;have z2:=hz.cell 2 _ rfl;have z3:=hz.cell 3 _ rfl;have z4:=hz.cell 4 _ rfl;have y0:=hz.frozen 0;have y1:=hz.frozen 1;have y2:=hz.frozen 2;have y3:=hz.frozen 3;have y4:=hz.frozen 4;have u0:=hbF.cell 0 _ rfl;have u1:=hbF.cell 1 _ rfl;have u2:=hbF.cell 2 _ rfl;have u3:=hbF.cell 3 _ rfl;have u4:=hbF.cell 4 _ rfl;have v0:=((HB4.out.kept hc1 (by simp)).kept hca (by simp)).cell 0 _ rfl;have hcw:=(HC6.out.then hc1).then hca
 have hs1:=hc1.size;have HSW:=zh (wswap_any (H.out.kept hcw (by simp)) HI.out ((HMD.out.kept hca (by simp)).mono (fun x hx=>hx)) (Gm:=New w6 w1) (fun x hx=>⟨by have:=hx.2;have:=hca.size;omega,fun ho=>by have:=H.out.lt x (.inl ho);have:=hx.1;have:=HSZ.out;omega⟩) HGO.out (HL.out.kept hcw (by simp)));have HERF:=zh (HER.out.kept hcw (by simp));have HCW:=zh hcw;have HB6F:=zh ((HB6.out.kept hc1 (by simp)).kept hca (by simp));have HS1:=zh (show w6.heap.size≤w1.heap.size∧w1.heap.size≤wF.heap.size from⟨hs1,hca.size⟩);clear hcA hcF hbF hz hc1 hca hcw hs1 hmod hgv hpv;go_wp2_with fail;clear hw4 hw6 hwA hwF z0 z1 z2 z3 z4 y0 y1 y2 y3 y4 x0 x1 u0 u1 u2 u3 u4 v0;refine HSW.out.mono ?_;rintro _ w7 ⟨vo,rfl,hvo,hwat,hch⟩;obtain⟨Z,hz,hZ⟩:=hch;have hlt:=fun y (hy:Own y)=>H.out.lt y (.inl hy)
 have HT:=zh (tell_out (HERF.out.kept hz (fun hm=>HEO.out (hZ _ hm))) hvo);have HB67:=zh (HB6F.out.kept hz (fun hm=>by have:=hlt _ (hZ _ hm);have:=HSZ.out;omega));have HZ:=zh hZ;have HZC:=zh hz;have HWAT:=zh hwat;clear hz hZ hlt hvo hwat;go_wp2_with fail;refine HT.out.mono ?_;rintro _ wT ⟨rfl,hcT⟩;have HCT:=zh hcT;have hb6T:=HB67.out.kept hcT (by simp);have z0:=hb6T.cell 0 _ rfl;have z1:=hb6T.cell 1 _ rfl;have y0:=hb6T.frozen 0;have y1:=hb6T.frozen 1;obtain⟨wS,hwS,hbS,hcS⟩:=setE 0 nils hb6T;have HCS:=zh hcS;have q0:=hbS.cell 0 _ rfl;have q1:=hbS.cell 1 _ rfl;clear hb6T hbS hcS hcT;go_wp2_with fail;refine bodyPost_ret (v:=.tuple #[.agg #[num 0,nils],num 0,num (codeO (swapW W m).2)]) (by simp [results,Tryz.results23,go_sem,q0,q1]) rfl ?_;have hsz:=HSZ.out;have hs1:=HS1.out;have hTS:Chg [w4.heap.size] w7 wS:=HCT.out.weak.then HCS.out
 refine⟨_,More Own wF w7,fun y=>G y∨New w6 w1 y,rfl,⟨nils,rfl,⟨rfl,.inl ⟨rfl,rfl⟩⟩,From.nil _⟩,HWAT.out.kept hTS (fun y hy=>?_),fun y hy=>?_,fun y hy=>?_,Z,(HCW.out.weak.then HZC.out).trans hTS (fun y hy=>.inr ?_),HZ.out⟩
 ·simp only [List.mem_singleton] at hy
  subst hy;refine⟨fun ho=>?_,fun hg=>?_⟩
  ·rcases ho with ho|ho
   ·have:=H.out.lt _ (.inl ho);omega
   ·omega
  ·rcases hg with hg|hg
   ·have:=H.out.lt _ (.inr hg);omega
   ·have:=hg.1;omega
 ·rcases hy with hy|hy
  ·exact .inl hy
  ·exact .inr (by omega)
 ·rcases hy with hy|hy
  ·exact .inl hy
  ·exact .inr (by have:=hy.1;omega)
 ·simp only [List.mem_singleton] at hy
  omega
end Go.Proofs.YtechofppmnnomaaGreatDoor
namespace Go.Proofs.YtechofppmnnomaaGreatDoor
open Go Go.RowKit Go.Mq Go.Mq.Tree Go.Mq.Sym Go.Mq.Run
open Go.Mq.Check (check Out)
set_option maxRecDepth 100000
set_option maxHeartbeats 4000000
theorem act_load {w:World} {Own G:Nat→Prop} {bw B fuel g:Nat} {W:Wd} {x:Ac} {m:Mod} {r:Wd × Nat × List Int × Out} (h:WAt w Own G bw W) (hL:Laid w B) (hE:ErrLaid w) (hEO : ¬ Own 0) (hw : x.what≠1) (hw2 : x.what≠2) (hfu : fuel≤1000000) (ht : x.text.length≤1000) (hp : parse x.text = .ok m) (hr : loadW g W m fuel=some r) :
  Calls Tryz.prog 23 #[ptr bw,.agg #[num x.what,str x.text,str x.name,str x.proc,.slice x.ad x.args.length x.cap],num fuel] w (Acted w Own G bw (r.1,r.2.1,r.2.2.1,0,codeO r.2.2.2)):=by
 obtain⟨wh,hwh⟩ : ∃ y,y=x.what:=⟨_,rfl⟩
 rw [← hwh] at hw hw2 ⊢;have hq : (wh == 1)=false:=by simpa using hw
 have hq2 : (wh == 2)=false:=by simpa using hw2
 obtain⟨w4,hw4⟩ : ∃ y,w.alloc (.cells #[num wh,str x.text,str x.name,str x.proc,.slice x.ad x.args.length x.cap] 57)=y:=⟨_,rfl⟩
 have hb4:Blk w4 w.heap.size #[num wh,str x.text,str x.name,str x.proc,.slice x.ad x.args.length x.cap] 57:=by rw [← hw4];exact Blk.new w _ _
 have hc4:Chg [] w w4:=by rw [← hw4];exact(Chg.refl _ _).alloc _
 have hs4 : w4.heap.size=w.heap.size + 1:=by rw [← hw4];simp
 obtain⟨w6,hw6⟩ : ∃ y,w4.alloc (.cells #[num 0,nils] 43)=y:=⟨_,rfl⟩
 have hb6:Blk w6 w4.heap.size #[num 0,nils] 43:=by rw [← hw6];exact Blk.new w4 _ _
 have hc6:Chg [] w4 w6:=by rw [← hw6];exact(Chg.refl _ _).alloc _
 have hs6 : w6.heap.size=w4.heap.size + 1:=by rw [← hw6];simp
 have hb46:=hb4.kept hc6 (by simp);have x0:=hb46.cell 0 _ rfl;have x1:=hb46.cell 1 _ rfl;have hcw:=hc4.then hc6
 have hP:=parse_any x.text (by omega) w6 B (hL.kept hcw (by simp));rw [hp] at hP;have HP:=zh hP;have HGO:=zh (good_of (by omega) hp);have HB4:=zh hb46;have HB6:=zh hb6;have HC6:=zh hcw;have HSZ:=zh (show w4.heap.size=w.heap.size + 1∧w6.heap.size=w.heap.size + 2 by omega);have H:=zh h;have HER:=zh hE;have HL:=zh hL;have HEO:=zh hEO;clear h hb4 hc4 hs4 hb6 hc6 hs6 hb46 hcw hE hL hP hp hw hw2 hwh hEO
 go_enter Tryz.func23,Tryz.ntmps23
 go_wp2_with fail;refine HP.out.mono ?_;rintro _ w1 ⟨hc1,v,rfl,hmod⟩;have HMD:=zh hmod;obtain⟨aia,cia,ava,cva,apa,cpa,aba,cba,rfl,hgv,hpv⟩:=mod_parts hmod;have hz:=Blk.new w1 #[str [],nils,nils,nils,nils] 32;obtain⟨wA,hwA⟩ : ∃ w',w1.alloc (.cells #[str [],nils,nils,nils,nils] 32)=w':=⟨_,rfl⟩
 rw [hwA] at hz;have hcA:Chg [] w1 wA:=by rw [← hwA];exact(Chg.refl _ _).alloc _
 obtain⟨wF,hwF,hcF,hbF⟩:=set5 (str m.name) (.slice aia m.imports.length cia) (.slice ava m.vars.length cva) (.slice apa m.procs.length cpa) (.slice aba m.body.len cba) hz;have hca:Chg [] w1 wF:=hcA.trans hcF (fun x hx=>.inr (by simp at hx;omega));have z0:=hz.cell 0 _ rfl;have z1:=hz.cell 1 _ rfl;have z2:=hz.cell 2 _ rfl;have z3:=hz.cell 3 _ rfl;have z4:=hz.cell 4 _ rfl;have y0:=hz.frozen 0;have y1:=hz.frozen 1;have y2:=hz.frozen 2;have y3:=hz.frozen 3;have y4:=hz.frozen 4;have u0:=hbF.cell 0 _ rfl;have u1:=hbF.cell 1 _ rfl;have u2:=hbF.cell 2 _ rfl;have u3:=hbF.cell 3 _ rfl;have u4:=hbF.cell 4 _ rfl;have v0:=((HB4.out.kept hc1 (by simp)).kept hca (by simp)).cell 0 _ rfl;have hcw:=(HC6.out.then hc1).then hca
 have hs1:=hc1.size;have HSW:=zh (load_any g (H.out.kept hcw (by simp)) ((HMD.out.kept hca (by simp)).mono (fun x hx=>hx)) (Gm:=New w6 w1) (fun x hx=>⟨by have:=hx.2;have:=hca.size;omega,fun ho=>by have:=H.out.lt x (.inl ho);have:=hx.1;have:=HSZ.out;omega⟩) HGO.out (by omega) hr);have HERF:=zh (HER.out.kept hcw (by simp));have HCW:=zh hcw;have HB6F:=zh ((HB6.out.kept hc1 (by simp)).kept hca (by simp));have HS1:=zh (show w6.heap.size≤w1.heap.size∧w1.heap.size≤wF.heap.size from⟨hs1,hca.size⟩);clear hcA hcF hbF hz hc1 hca hcw hs1 hmod hgv hpv hr;go_wp2_with fail;clear hw4 hw6 hwA hwF z0 z1 z2 z3 z4 y0 y1 y2 y3 y4 x0 x1 u0 u1 u2 u3 u4 v0;refine HSW.out.mono ?_;rintro _ w7 ⟨ve,vo,rfl,hev,hvo,hwat,hch⟩;obtain⟨ov,rfl,hov,hof⟩:=hev;obtain⟨ea,ec,rfl⟩:=slice_of_owns hov;obtain⟨Z,hz,hZ⟩:=hch;have hlt:=fun y (hy:Own y)=>H.out.lt y (.inl hy)
 have hb67:=HB6F.out.kept hz (fun hm=>by have:=hlt _ (hZ _ hm);have:=HSZ.out;omega);obtain⟨w8,hw8⟩ : ∃ y,w7.alloc (.cells #[num 0,nils] 43)=y:=⟨_,rfl⟩
 have hb8:Blk w8 w7.heap.size #[num 0,nils] 43:=by rw [← hw8];exact Blk.new w7 _ _
 have hc8:Chg [] w7 w8:=by rw [← hw8];exact(Chg.refl _ _).alloc _
 have i0:=hb8.cell 0 _ rfl;have i1:=hb8.cell 1 _ rfl;have j0:=hb8.frozen 0;have j1:=hb8.frozen 1;obtain⟨w9,hw9,hb9,hc9⟩:=setE r.2.1 (.slice ea r.2.2.1.length ec) hb8;have hc79:Chg [] w7 w9:=hc8.trans hc9 (fun x hx=>.inr (by simp at hx;omega));obtain⟨wE,hwE⟩ : ∃ y,y=w9.drew:=⟨_,rfl⟩
 have hc9E:Chg [] w9 wE:=by rw [hwE];exact(Chg.refl [] w9).drew
 have hc7E:=hc79.then hc9E
 have hb9E:=hb9.kept hc9E (by simp);have k0:=hb9E.cell 0 _ rfl;have k1:=hb9E.cell 1 _ rfl;have hne : w7.heap.size≠w4.heap.size:=by have:=hz.size;have:=HSZ.out;have:=HS1.out;omega
 have HNE:=zh hne;have Z1:=zh (Zone.of (X:=[w4.heap.size]) (w0:=wE) k0 (by simpa using hne));have Z2:=zh (Zone.of (X:=[w4.heap.size]) (w0:=wE) k1 (by simpa using hne));have herr:=((HERF.out.kept hz (fun hm=>HEO.out (hZ _ hm))).kept hc7E (by simp));have HT:=zh (tell_out herr (errV_kept hvo hc7E (fun x hx=>by cases hx)));have HB67:=zh (hb67.kept hc7E (by simp));have HZ:=zh hZ;have HZC:=zh hz;have HC7E:=zh hc7E;have HOV:=zh hov;have HOF:=zh hof;have HWAT:=zh hwat;clear hz hZ hlt hb67 hb8 hc8 hb9 hc9 hc79 hc9E hc7E hb9E herr hvo hwat hov hof hne;go_wp2_with fail;refine wp_region_L [w4.heap.size] rfl (by decide +kernel) ?_;rw [← hwE];clear hw8 hw9 hwE i0 i1 j0 j1;have hS:Chg [w4.heap.size] wE wE:=Chg.refl _ _
 repeat ((with_reducible refine gX ?_);(first|refine wpX_nil ?_|refine sK ?_|refine sM fun _ _=>?_|refine sL (hz:=by first|exact Z1.out|exact Z2.out) fun _ _=>?_|refine sE fun _ _=>?_);go_wp2_with fail)
 refine HT.out.mono ?_;rintro _ wT ⟨rfl,hcT⟩;have HCT:=zh hcT;clear hcT hS;have hb6T:=HB67.out.kept HCT.out (by simp);have z0:=hb6T.cell 0 _ rfl;have z1:=hb6T.cell 1 _ rfl;have y0:=hb6T.frozen 0;have y1:=hb6T.frozen 1;obtain⟨wS,hwS,hbS,hcS⟩:=setE r.2.1 (.slice ea r.2.2.1.length ec) hb6T;have HBS:=zh hbS;have HCS:=zh hcS;clear hb6T hbS hcS;go_wp2_with fail;refine And.intro HCT.out.weak ?_;have hS:Chg [w4.heap.size] wE wT:=HCT.out.weak
 repeat ((with_reducible refine gX ?_);(first|refine wpX_nil ?_|refine sK ?_|refine sM fun _ _=>?_|refine sL (hz:=by first|exact Z1.out|exact Z2.out) fun _ _=>?_|refine sE fun _ _=>?_);go_wp2_with fail)
 clear hS hwS;refine And.intro (HCT.out.weak.then HCS.out) ?_;have hS:Chg [w4.heap.size] wE wS:=HCT.out.weak.then HCS.out
 have q0:=HBS.out.cell 0 _ rfl;have q1:=HBS.out.cell 1 _ rfl
 repeat ((with_reducible refine gX ?_);(first|refine wpX_nil ?_|refine sK ?_|refine sM fun _ _=>?_|refine sL (hz:=by first|exact Z1.out|exact Z2.out) fun _ _=>?_|refine sE fun _ _=>?_);go_wp2_with fail)
 go_wp2_with fail;refine bodyPost_ret (v:=.tuple #[.agg #[num r.2.1,.slice ea r.2.2.1.length ec],num 0,num (codeO r.2.2.2)]) (by simp [results,Tryz.results23,go_sem,q0,q1]) rfl ?_;have hsz:=HSZ.out;have hs1:=HS1.out;have hTS:Chg [w4.heap.size] w7 wS:=(HC7E.out.weak.then HCT.out.weak).then HCS.out
 refine⟨_,More Own wF w7,fun y=>G y∨New w6 w1 y,rfl,⟨_,rfl,owns_kept HOV.out hTS (fun y hy hm=>?_),fun y hy=>?_⟩,HWAT.out.kept hTS (fun y hy=>?_),fun y hy=>?_,fun y hy=>?_,Z,((HCW.out.weak.then HZC.out).then HC7E.out.weak).trans (HCT.out.weak.then HCS.out) (fun y hy=>.inr ?_),HZ.out⟩
 ·simp only [List.mem_singleton] at hm
  have:=HOF.out y hy;omega
 ·have:=HOF.out y hy
  omega
 ·simp only [List.mem_singleton] at hy
  subst hy;refine⟨fun ho=>?_,fun hg=>?_⟩
  ·rcases ho with ho|ho
   ·have:=H.out.lt _ (.inl ho);omega
   ·omega
  ·rcases hg with hg|hg
   ·have:=H.out.lt _ (.inr hg);omega
   ·have:=hg.1;omega
 ·rcases hy with hy|hy
  ·exact .inl hy
  ·exact .inr (by omega)
 ·rcases hy with hy|hy
  ·exact .inl hy
  ·exact .inr (by have:=hy.1;omega)
 ·simp only [List.mem_singleton] at hy
  omega
end Go.Proofs.YtechofppmnnomaaGreatDoor
namespace Go.Proofs.YtechofppmnnomaaGreatDoor
open Go Go.RowKit Go.Mq Go.Mq.Tree Go.Mq.Sym Go.Mq.Run
theorem act_any {w:World} {Own G F:Nat→Prop} {bw B fuel g:Nat} {W:Wd} {x:Ac} {r:Wd × Nat × List Int × Int × Int} (h:WAt w Own G bw W) (hI:Inv W) (hL:Laid w B) (hE:ErrLaid w) (hEO : ¬ Own 0) (ha:Row w F x.ad (ints x.args)) (hF : ∀ y,F y→y < w.heap.size∧¬ Own y) (ht : x.text.length≤1000) (h10 : x.args.length≤10) (hfu : fuel≤1000000) (hr : actW g W x fuel=some r) :
  Calls Tryz.prog 23 #[ptr bw,.agg #[num x.what,str x.text,str x.name,str x.proc,.slice x.ad x.args.length x.cap],num fuel] w (Acted w Own G bw r):=by
 unfold actW at hr
 split at hr
 ·rename_i h1
  obtain⟨r',h2,rfl⟩:=Option.map_eq_some_iff.1 hr;exact act_call h hE hEO ha hF h10 hfu h1 h2
 ·rename_i h1
  cases hp : parse x.text with
  | bad en p=>rw [hp] at hr;cases hr;exact act_bad h hL hE h1 ht hp
  | ok m=>
   rw [hp] at hr;simp only at hr;split at hr
   ·rename_i h2
    cases hr
    exact act_swap h hI hL hE hEO h2 ht hp
   ·rename_i h2
    obtain⟨r',h3,rfl⟩:=Option.map_eq_some_iff.1 hr;exact act_load h hL hE hEO h1 h2 hfu ht hp h3
end Go.Proofs.YtechofppmnnomaaGreatDoor
namespace Go.Proofs.YtechofppmnnomaaGreatDoor
open Go Go.RowKit Go.Mq Go.Mq.Tree Go.Mq.Sym Go.Mq.Run
open Go.Mq.Check (check Out)
set_option maxRecDepth 100000
set_option maxHeartbeats 4000000
theorem held_few {l:List Ac} (h : heldL l=true) : l.length≤12 ∧ ∀ x∈l,x.text.length≤1000∧x.name.length≤40∧x.proc.length≤40∧x.args.length≤10:=by
 simp only [heldL,Bool.and_eq_true,decide_eq_true_eq,Bool.not_eq_true',List.any_eq_false] at h;refine⟨h.1,fun x hx=>?_⟩;have:=h.2 x hx;simp only [shortA,Bool.or_eq_true,decide_eq_true_eq] at this;omega
theorem wrefuses_any (l:List Ac) (hl : l.length≤9223372036854775807) (F:Nat→Prop) (a:Option Addr) (c:Nat) (w:World) (B:Nat) (hL:Laid w B) (hE:ErrLaid w) (hA:ActsAt w F l a) (hF : ∀ y,F y→y < w.heap.size)
  (hf : ∀ x∈l,x.text.length≤9223372036854775807∧x.name.length≤9223372036854775807∧x.proc.length≤9223372036854775807∧x.args.length≤9223372036854775807) :
  Calls Tryz.prog 7 #[.slice a l.length c] w (Holds w):=by
 have HH:=zh (held_any l hl F a c w hA.row hf);cases hh : heldL l with
 | false=>
  rw [hh] at HH;clear hh
  go_enter Tryz.func7,Tryz.ntmps7
  go_wp2_with fail;refine HH.out.mono ?_;rintro _ w1 ⟨rfl,hc1⟩;go_wp2_with fail;go_ret
  exact⟨rfl,hc1⟩
 | true=>
  rw [hh] at HH;obtain⟨hl12,hfew⟩:=held_few hh;have HFEW:=zh hfew;have HL:=zh hL;have HER:=zh hE;have HA:=zh hA;have HF:=zh hF;clear hh hf hfew hL hE hA hF
  go_enter Tryz.func7,Tryz.ntmps7
  go_wp2_with fail;refine HH.out.mono ?_;rintro _ w1 ⟨rfl,hc1⟩;have HR:=zh (ran_any w1 B (HL.out.kept hc1 (by simp)));have HC1:=zh hc1;clear hc1;go_wp2_with fail;refine HR.out.mono ?_;rintro _ w2 ⟨rfl,hc2⟩;have HC2:=zh (HC1.out.then hc2);clear hc2;obtain⟨wV,hwV⟩ : ∃ x,w2.alloc (.cells #[.map none,nils] 40)=x:=⟨_,rfl⟩
  have hbV:Blk wV w2.heap.size #[.map none,nils] 40:=by rw [← hwV];exact Blk.new w2 _ _
  have hcV:Chg [] w2 wV:=by rw [← hwV];exact(Chg.refl _ _).alloc _
  have HBV:=zh hbV;have HCV:=zh hcV;clear hbV hcV;go_wp2_with fail;clear hwV
  go_loopw [4,5,6,7,8] (fun i _ _ _ _ wr=>∃ (k:Nat) (W:Wd) (Own G:Nat→Prop),i = .int .i64 k∧k≤l.length∧Hid (WAt wr Own G w2.heap.size W∧Inv W∧(∀ y,Own y→w2.heap.size≤y)∧Chg [] w2 wr)) (fun i _ _ _ _ _=>l.length - (intOf i).toNat)
  case atStart=>exact⟨0,Wd.zero,_,_,rfl,Nat.zero_le _,zh ⟨WAt.new HBV.out,Inv.zero,fun y hy=>by subst hy;exact Nat.le_refl _,HCV.out⟩⟩
  case round=>
   obtain⟨k,W,Own,G,rfl,hk,hrl⟩:=hrel;by_cases hlt : k < l.length
   ·obtain⟨x,hx⟩ : ∃ x,l[k]?=some x:=⟨l[k],List.getElem?_eq_getElem hlt⟩
    have hmem:=List.mem_of_getElem? hx;obtain⟨hwat,hI,hown,hcr⟩:=hrl.out;have hcw:=HC2.out.then hcr
    obtain⟨bb,off,rfl,d0,d1,d2,d3,d4⟩:=act_cells (HA.out.row.kept hcw (by simp)) hx;obtain⟨ft,_,_,fa⟩:=HFEW.out x hmem;obtain⟨g,r,hr,hI'⟩:=act_total hI ft 300;have HALL:=zh (fun w' (hc:Chg [] wr w')=>wall_any (hwat.kept hc (by simp)) hI);have HEO:=zh (show ¬ Own 0 from fun ho=>by
     have h1:=hown _ ho;have h2:=(lt_of_cell HER.out);have:=HC2.out.size;omega)
    have HACT:=zh (fun w' (hc:Chg [] wr w')=>act_any (hwat.kept hc (by simp)) hI (HL.out.kept (hcw.then hc) (by simp)) (HER.out.kept (hcw.then hc) (by simp)) HEO.out (((HA.out.args x hmem).2.kept hcw (by simp)).kept hc (by simp)) (fun y hy=>⟨by have:=HF.out y hy;have:=hcw.size;have:=hc.size;omega,fun ho=>by have:=hown y ho;have:=HF.out y hy;have:=HC2.out.size;omega⟩) ft fa (by omega : 300≤1000000) hr);obtain⟨sb,hsb⟩ : ∃ s,s=bs (allT W):=⟨_,rfl⟩
    simp only [str,← hsb] at HALL;have HSB:=zh hsb;have HRR:=zh hr;have HI':=zh hI';have HOWN:=zh hown;have HCR:=zh hcr;clear hx hwat hI hown hcr hcw hr hI' hsb;go_wp2_with fail;refine(HALL.out wr (Chg.refl _ _)).mono ?_;rintro _ w4 ⟨rfl,hc4⟩;have e0:=hc4.cellSome d0 (by simp);have e1:=hc4.cellSome d1 (by simp);have e2:=hc4.cellSome d2 (by simp);have e3:=hc4.cellSome d3 (by simp);have e4:=hc4.cellSome d4 (by simp);have HC4:=zh hc4;clear hc4 d0 d1 d2 d3 d4;go_wp2_with fail;refine(HACT.out w4 HC4.out).mono ?_;rintro _ w5 ⟨ve,Own',G',rfl,hev,hwat',hown',hg',hch⟩;obtain⟨W',y1,o1,n1,cd⟩:=r;simp only at hev hwat' HI';cases hcd : (cd != 0) with
    | false=>
     obtain⟨ov,rfl,hov,_⟩:=hev;obtain⟨ea,ec,rfl⟩:=slice_of_owns hov;obtain⟨w8,hw8⟩ : ∃ y,w5.alloc (.cells #[num 0,nils] 43)=y:=⟨_,rfl⟩
     have hb8:Blk w8 w5.heap.size #[num 0,nils] 43:=by rw [← hw8];exact Blk.new w5 _ _
     have hc8:Chg [] w5 w8:=by rw [← hw8];exact(Chg.refl _ _).alloc _
     have i0:=hb8.cell 0 _ rfl;have i1:=hb8.cell 1 _ rfl;have j0:=hb8.frozen 0;have j1:=hb8.frozen 1;obtain⟨w9,hw9,hb9,hc9⟩:=setE y1 (.slice ea o1.length ec) hb8;have hc59:Chg [] w5 w9:=hc8.trans hc9 (fun x hx=>.inr (by simp at hx;omega));have k0:=hb9.cell 0 _ rfl;have k1:=hb9.cell 1 _ rfl;have h2r:=(HCR.out.then HC4.out).size;have hc29:Chg [] w2 w9:=by
      obtain⟨Z,hz,hZ⟩:=hch;exact((HCR.out.then HC4.out).trans hz (fun y hy=>.inr (HOWN.out y (hZ y hy)))).then hc59
     have hown2 : ∀ y,Own' y→w2.heap.size≤y:=fun y hy=>by
      rcases hown' y hy with h|h
      ·exact HOWN.out y h
      ·omega
     have HNX:=zh (show WAt w9 Own' G' w2.heap.size W'∧Inv W'∧(∀ y,Own' y→w2.heap.size≤y)∧Chg [] w2 w9 from⟨hwat'.kept hc59 (by simp),HI'.out,hown2,hc29⟩);clear hov hwat' hown' hg' hch hb8 hc8 hb9 hc9 hc59 h2r hc29 hown2 HACT HALL e0 e1 e2 e3 e4;go_wp2_with fail;refine⟨⟨k + 1,_,_,_,by go_num,by omega,HNX⟩,by simp [intOf];omega⟩
    | true=>
     obtain⟨q1,q2,q3,q4⟩:=act_refuses HRR.out (by simpa using hcd);simp only at q1 q2 q3 q4;subst q1 q2 q3 q4;obtain⟨ov,rfl,hov,_⟩:=hev;obtain⟨ea,ec,rfl⟩:=slice_of_owns hov;obtain⟨w8,hw8⟩ : ∃ y,w5.alloc (.cells #[num 0,nils] 43)=y:=⟨_,rfl⟩
     have hb8:Blk w8 w5.heap.size #[num 0,nils] 43:=by rw [← hw8];exact Blk.new w5 _ _
     have hc8:Chg [] w5 w8:=by rw [← hw8];exact(Chg.refl _ _).alloc _
     have i0:=hb8.cell 0 _ rfl;have i1:=hb8.cell 1 _ rfl;have j0:=hb8.frozen 0;have j1:=hb8.frozen 1;obtain⟨w9,hw9,hb9,hc9⟩:=setE 0 (.slice ea 0 ec) hb8;have hc59:Chg [] w5 w9:=hc8.trans hc9 (fun x hx=>.inr (by simp at hx;omega));have k0:=hb9.cell 0 _ rfl;have k1:=hb9.cell 1 _ rfl;have h2r:=(HCR.out.then HC4.out).size;have hc29:Chg [] w2 w9:=by
      obtain⟨Z,hz,hZ⟩:=hch;exact((HCR.out.then HC4.out).trans hz (fun y hy=>.inr (HOWN.out y (hZ y hy)))).then hc59
     have hown2 : ∀ y,Own' y→w2.heap.size≤y:=fun y hy=>by
      rcases hown' y hy with h|h
      ·exact HOWN.out y h
      ·omega
     have HNX:=zh (show WAt w9 Own' G' w2.heap.size W'∧Inv W'∧(∀ y,Own' y→w2.heap.size≤y)∧Chg [] w2 w9 from⟨hwat'.kept hc59 (by simp),HI'.out,hown2,hc29⟩);clear hov hwat' hown' hg' hch hb8 hc8 hb9 hc9 hc59 h2r hc29 hown2 HACT HALL e0 e1 e2 e3 e4;have HA2:=zh (wall_any HNX.out.1 HNX.out.2.1);simp only [str,← HSB.out] at HA2;go_wp2_with fail;refine HA2.out.mono ?_;rintro _ w6 ⟨rfl,hc6⟩;have HC6:=zh hc6;have l0:=hc6.cellSome k0 (by simp);have l1:=hc6.cellSome k1 (by simp);clear hc6;go_wp2_with fail;have hn:=HNX.out;refine⟨⟨k + 1,_,_,_,by go_num,by omega,zh ⟨hn.1.kept HC6.out (by simp),hn.2.1,hn.2.2.1,hn.2.2.2.then HC6.out⟩⟩,by simp [intOf];omega⟩
   ·go_wp2_with fail
    go_ret
    exact⟨rfl,HC2.out.then hrl.out.2.2.2⟩
end Go.Proofs.YtechofppmnnomaaGreatDoor
