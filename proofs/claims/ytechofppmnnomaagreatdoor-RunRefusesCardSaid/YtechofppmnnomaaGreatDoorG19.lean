/- Some texts in one. -/
import Derived.Test.YtechofppmnnomaaGreatDoorG5
import Derived.Test.YtechofppmnnomaaGreatDoorG11
import Derived.Test.YtechofppmnnomaaGreatDoorG15
import Derived.Test.YtechofppmnnomaaGreatDoorG18
namespace Go.Mq.Run
open Go Go.RowKit Go.Mq Go.Mq.Tree
open Go.Mq.Plan (MapIs getM putM)
open Go.Mq.Sym (cells6S)
section
variable {w w':World} {L:Lay} {d:Nat} {s:St} {ov ov':Value}
theorem br_notblk (h:Going w L d s ov):L.br∉blk ov:=fun hm=>by have:=h.from_ _ hm;omega
theorem br_notarr (h:Going w L d s ov):L.br∉L.arrs:=fun hm=>by have:=(h.lay.arrs hm).2;omega
theorem arr_notblk (h:Going w L d s ov) {b:Nat} (hb : b∈L.arrs) : b∉blk ov:=fun hm=>by have:=h.from_ _ hm;have:=(h.lay.arrs hb).2;omega
theorem br_notfix (h:Going w L d s ov) : ¬ L.Fix L.br:=fun hf=>by have:=h.lay.fix hf;omega
theorem Going.rerun (h:Going w L d s ov) {f d':Nat} (hc:Chg [L.br] w w') (hb:Blk w' L.br #[ptr L.bw,num f,num d',ov] runT) (hd : d'≤30) (hf : f≤9223372036854775807):Going w' L d' { s with fuel:=f } ov:=
 ⟨h.lay,h.stat.kept hc (by simpa using br_notfix h),hb,h.dyn.kept hc fun q n b k hq=>by
  have:=(h.lay.arrs (h.lay.arr hq).1).2;simp;omega,fun hx=>by
  obtain⟨cs,f,hh⟩:=h.arrc hx;refine⟨cs,f,?_⟩;rw [hc.block _ (Array.getElem?_eq_some_iff.1 hh).1 (by simp;intro he;subst he;exact br_notarr h hx)];exact hh,owns_kept h.out hc (fun g hg hm=>by simp at hm;subst hm;exact br_notblk h hg),h.from_,h.few,hd,hf⟩
theorem Going.told (h:Going w L d s ov) {out:List Int} (hc:Chg (L.br :: blk ov) w w') (hb:Blk w' L.br #[ptr L.bw,num s.fuel,num d,ov'] runT) (ho : w'.ownsRow 0 i64T 1 ov' out.length (ints out)) (hf:From (L.br + 1) ov') (hl : out.length≤200):Going w' L d { s with out:=out } ov':=
 ⟨h.lay,h.stat.kept hc (fun x hx=>h.notfix x (by
  rcases List.mem_cons.1 hx with rfl|hx
  ·exact List.mem_cons_self
  ·exact List.mem_cons_of_mem _ (List.mem_append_left _ hx))),hb,h.dyn.kept hc fun q n b k hq hm=>by
  have ha:=(h.lay.arr hq).1;rcases List.mem_cons.1 hm with rfl|hm
  ·exact br_notarr h ha
  ·exact arr_notblk h ha hm,fun hx=>by
  obtain⟨cs,f,hh⟩:=h.arrc hx;refine⟨cs,f,?_⟩;rw [hc.block _ (Array.getElem?_eq_some_iff.1 hh).1 (fun hm=>by
   rcases List.mem_cons.1 hm with rfl|hm
   ·exact br_notarr h hx
   ·exact arr_notblk h hx hm)]
  exact hh,ho,hf,hl,h.deep,h.most⟩
theorem Going.put (h:Going w L d s ov) {q n:Nm} {b k i:Nat} {l:List Int} {v:Int} (hd:L.dim q n=some (b,k)) (hl : s.vs q n=some l) (hc:Chg [b] w w') (hb:Blk w' b (ints (l.set i v)).toArray i64T):Going w' L d { s with vs:=putV s.vs q n (l.set i v) } ov:=by
 have ha:=(h.lay.arr hd).1;refine⟨h.lay,h.stat.kept hc (by simpa using (h.lay.arrs ha).1),h.run.kept hc (by simp;rintro rfl;exact br_notarr h ha),fun q' n'=>?_,@fun bx hx=>?_,owns_kept h.out hc (fun g hg hm=>by simp at hm;subst hm;exact arr_notblk h ha hg),h.from_,h.few,h.deep,h.most⟩
 ·have:=h.dyn q' n'
  cases hq:L.dim q' n' with
  | none=>
   rw [hq] at this;simp only [putV];rw [if_neg ?_]
   ·exact this
   ·rintro⟨rfl,rfl⟩
    rw [hd] at hq;cases hq
  | some x=>
   obtain⟨b',k'⟩:=x;rw [hq] at this;obtain⟨l',h1,h2,h3⟩:=this;by_cases he : q'=q∧n'=n
   ·obtain⟨rfl,rfl⟩:=he
    rw [hd] at hq;cases hq;rw [hl] at h1;cases h1;exact⟨_,by simp [putV],by simpa using h2,hb⟩
   ·refine⟨l',by simp only [putV,if_neg he];exact h1,h2,h3.kept hc ?_⟩
    simp
    intro hbb;subst hbb;obtain⟨e1,e2⟩:=h.lay.inj hq hd;exact he ⟨e1,e2⟩
 ·by_cases he : bx=b
  ·subst he;exact⟨_,_,hb⟩
  ·obtain⟨cs,f,hh⟩:=h.arrc hx
   exact⟨cs,f,by rw [hc.block _ (Array.getElem?_eq_some_iff.1 hh).1 (by simpa using he)];exact hh⟩
end
theorem procsAt_cells {w:World} {F:Nat→Prop} {l:List Proc} {v:Value} (h:ProcsAt w F l v) {k:Nat} {x:Proc} (hk : l[k]?=some x) :
  ∃ (bb off c:Nat) (vp vv vb:Value),v = .slice (some ⟨bb,off,none⟩) l.length c∧l.length≤c∧w.cell? ⟨bb,off + k * 6,none⟩=some (str x.name)∧w.cell? ⟨bb,off + k * 6 + 1,none⟩=some (num x.pos) ∧
   w.cell? ⟨bb,off + k * 6 + 2,none⟩=some (.bool x.seen)∧w.cell? ⟨bb,off + k * 6 + 3,none⟩=some vp∧w.cell? ⟨bb,off + k * 6 + 4,none⟩=some vv∧w.cell? ⟨bb,off + k * 6 + 5,none⟩=some vb∧NamesAt w F x.params vp∧NamesAt w F x.vars vv∧SlAt w F x.body vb:=by
 obtain⟨a,c,cs,rfl,hlc,hrow,hps⟩:=h;have key : ∀ {l:List Proc} {cs:List Value} {k:Nat} {x:Proc},PrsAt w F l cs→l[k]?=some x → ∃ cs1 c cs',cs=cs1 ++ (c ++ cs')∧cs1.length=k * 6∧PrAt w F x c:=by
  intro l
  induction l with
  | nil=>intro cs k x _ hk;simp at hk
  | cons y r ih=>
   intro cs k x h hk;obtain⟨c1,c2,rfl,h1,h2⟩:=h;cases k with
   | zero=>simp at hk;subst hk;exact⟨[],c1,c2,rfl,rfl,h1⟩
   | succ k=>
    obtain⟨cs1,c,cs',rfl,hl,hp⟩:=ih h2 (by simpa using hk);obtain⟨_,_,_,rfl,_⟩:=h1;exact⟨_ ++ cs1,c,cs',by rw [List.append_assoc],by simp [hl];omega,hp⟩
 obtain⟨cs1,c6,cs',rfl,hl,vp,vv,vb,rfl,h1,h2,h3⟩:=key hps hk;obtain⟨bb,off,rfl,d0,d1,d2,d3,d4,d5⟩:=cells6S (cs':=cs') hrow hl;exact⟨bb,off,c,vp,vv,vb,rfl,hlc,d0,d1,d2,d3,d4,d5,h1,h2,h3⟩
end Go.Mq.Run
namespace Go.Proofs.YtechofppmnnomaaGreatDoor
open Go Go.RowKit Go.Mq Go.Mq.Tree Go.Mq.Run
open Go.Mq.Check (At1 find_at find_no)
set_option maxRecDepth 100000
set_option maxHeartbeats 2000000
theorem both_any (op:Nm) (a b:Int) (w:World):Calls Tryz.prog 11 #[str op,num a,num b] w (fun e w'=>BothOut (both op a b) e∧Chg [] w w'):=by
 by_cases h : op∈allMarks
 ·simp only [allMarks,List.mem_cons,List.not_mem_nil,or_false] at h
  rcases h with rfl|rfl|rfl|rfl|rfl|rfl|rfl|rfl|rfl|rfl|rfl
  ·exact rboth_add a b w
  ·exact rboth_sub a b w
  ·exact rboth_mul a b w
  ·exact rboth_div a b w
  ·exact rboth_mod a b w
  ·exact rboth_eq a b w
  ·exact rboth_ne a b w
  ·exact rboth_lt a b w
  ·exact rboth_le a b w
  ·exact rboth_gt a b w
  ·exact rboth_ge a b w
 ·have : both op a b=some 0:=by
   simp only [allMarks,List.mem_cons,List.not_mem_nil,or_false,not_or] at h;obtain⟨h0,h1,h2,h3,h4,h5,h6,h7,h8,h9,h10⟩:=h;simp only [both,h0,h1,h2,h3,h4,h5,h6,h7,h8,h9,h10,if_false,or_self]
  rw [this];exact rboth_other op h a b w
theorem step_any {L:Lay} {d:Nat} {s:St} {ov:Value} {w:World} (h:Going w L d s ov):Calls Tryz.prog 115 #[ptr L.br] w (Ran w L d ov [] (fun _ _ e=>e = .returned (.tuple #[])) (tick s)):=by
 have H:=zh h;have hb:=h.run;have c1:=hb.cell 1 _ rfl;have f1:=hb.frozen 1;cases hf : decide (s.fuel=0) with
 | true=>
  have hf0 : s.fuel=0:=of_decide_eq_true hf;have HF:=zh hf0;rw [hf0] at c1;have HS:=zh (rstop_any 5 w);clear h hb f1 hf hf0
  go_enter Tryz.func115,Tryz.ntmps115
  go_wp2_with fail;refine HS.out.mono ?_;rintro _ _ ⟨⟨older,ho,rfl⟩,hw⟩;have hw:=hw.symm;subst hw;go_wp2_with fail;refine⟨rfl,ov,Moved.refl _ _,Chg.refl _ _,?_⟩;rw [tick,if_pos HF.out];exact⟨⟨older,ho,rfl⟩,d,H.out⟩
 | false=>
  have hf1 : s.fuel≠0:=of_decide_eq_false hf;have hf2 : ((s.fuel:Int) == 0)=false:=by simpa using hf1
  have HF:=zh hf1;have hm:=h.most;clear h hb hf hf1
  go_enter Tryz.func115,Tryz.ntmps115
  go_wp2_with fail;refine bodyPost_end (results_none rfl _ _ _) rfl ?_;have hx:=H.out;have hset:=hx.run.set 1 (num ((s.fuel:Int) - 1));have hch:Chg [L.br] w (w.setCell ⟨L.br,1,none⟩ (num ((s.fuel:Int) - 1))):=Chg.set1 _ _ _ _;refine⟨ov,Moved.refl _ _,hch.mono (fun x hx=>.inl (by simp at hx;subst hx;exact List.mem_append_right _ List.mem_cons_self)),?_⟩;rw [tick,if_neg HF.out];refine⟨rfl,hx.rerun hch ?_ hx.deep (by omega)⟩;have he : ((s.fuel:Int) - 1)=((s.fuel - 1:Nat):Int):=by have:=HF.out;omega
  rw [he] at hset
  simpa [he] using hset
theorem item_nil (k:Int) (w:World):Calls Tryz.prog 139 #[nils,num k] w (fun e w'=>Stopped 3 e∧w'=w):=by
 have HS:=zh (rstop_any 3 w);cases hk : decide (k < 0) with
 | true=>
  go_enter Tryz.func139,Tryz.ntmps139
  go_wp2_with fail;refine HS.out.mono ?_;rintro _ _ ⟨⟨older,ho,rfl⟩,hw⟩;have hw:=hw.symm;subst hw;go_wp2_with fail;exact⟨rfl,⟨older,ho,rfl⟩,rfl⟩
 | false=>
  have hk2 : decide ((0:Int)≤k)=true:=by simp at hk ⊢;omega
  go_enter Tryz.func139,Tryz.ntmps139
  go_wp2_with fail;refine HS.out.mono ?_;rintro _ _ ⟨⟨older,ho,rfl⟩,hw⟩;have hw:=hw.symm;subst hw;go_wp2_with fail;exact⟨rfl,⟨older,ho,rfl⟩,rfl⟩
theorem item_any (b n c:Nat) (_hn : n≤1000) (k:Int) (w:World):Calls Tryz.prog 139 #[.slice (some ⟨b,0,none⟩) n c,num k] w (fun e w'=>(if 0≤k∧k < n then e = .returned (.pointer (some ⟨b,k.toNat,none⟩)) else Stopped 3 e)∧w'=w):=by
 have HS:=zh (rstop_any 3 w);cases hk : decide (k < 0) with
 | true=>
  have hk1 : ¬ (0≤k∧k < n):=by simp at hk;omega
  simp only [if_neg hk1];clear hk1
  go_enter Tryz.func139,Tryz.ntmps139
  go_wp2_with fail;refine HS.out.mono ?_;rintro _ _ ⟨⟨older,ho,rfl⟩,hw⟩;have hw:=hw.symm;subst hw;go_wp2_with fail;exact⟨rfl,⟨older,ho,rfl⟩,rfl⟩
 | false=>
  have hk0 : 0≤k:=by simpa using hk
  obtain⟨m,rfl⟩:=Int.eq_ofNat_of_zero_le hk0;cases hm : decide ((n:Int)≤(m:Int)) with
  | true=>
   have hk1 : ¬ (0≤(m:Int)∧(m:Int) < n):=by simp at hm;omega
   simp only [if_neg hk1];have hmn : n≤m:=by simp at hm;omega
   clear hk1
   go_enter Tryz.func139,Tryz.ntmps139
   go_wp2_with fail;refine HS.out.mono ?_;rintro _ _ ⟨⟨older,ho,rfl⟩,hw⟩;have hw:=hw.symm;subst hw;go_wp2_with fail;exact⟨rfl,⟨older,ho,rfl⟩,rfl⟩
  | false=>
   have hmn : m < n:=by simp at hm;omega
   have hk1 : 0≤(m:Int)∧(m:Int) < n:=⟨hk0,by omega⟩;simp only [if_pos hk1]
   go_enter Tryz.func139,Tryz.ntmps139
   go_wp2_with fail;go_ret
   exact⟨by simp,rfl⟩
end Go.Proofs.YtechofppmnnomaaGreatDoor
namespace Go.Mq.Run
open Go Go.RowKit Go.Mq Go.Mq.Tree
open Go.Mq.Plan (MapIs getM putM)
theorem Ran.still {α:Type} {w w':World} {L:Lay} {d:Nat} {s:St} {ov:Value} {X:List Nat} {V:World→α→Ending→Prop} {a : α} {e:Ending} (h:Going w L d s ov) (hc:Chg [] w w') (hV:V w' a e):Ran w L d ov X V (.ok a s) e w':=
 ⟨ov,Moved.refl _ _,hc.weak,hV,h.kept hc⟩
theorem Ran.halted {α:Type} {w w':World} {L:Lay} {d:Nat} {s:St} {ov:Value} {X:List Nat} {V:World→α→Ending→Prop} {way:Nat} {e:Ending} (h:Going w L d s ov) (hc:Chg [] w w') (hV:Stopped way e):Ran w L d ov X V (.stop way s:O α) e w':=
 ⟨ov,Moved.refl _ _,hc.weak,hV,d,h.kept hc⟩
theorem moved_from {w0 w1:World} {ov ov':Value} {Z:List Nat} (hm:Moved w1 ov ov') (hc:Chg Z w0 w1):Moved w0 ov ov':=fun g hg=>by
 rcases hm g hg with h|h
 ·exact .inl h
 ·exact .inr (by have:=hc.size;omega)
theorem Ran.after {α:Type} {w0 w1 w':World} {L:Lay} {d:Nat} {ov:Value} {X:List Nat} {V:World→α→Ending→Prop} {o:O α} {e:Ending} (h:Ran w1 L d ov X V o e w') (hc:Chg [] w0 w1):Ran w0 L d ov X V o e w':=by
 obtain⟨ov',hm,hch,h⟩:=h;exact⟨ov',moved_from hm hc,hc.weak.then hch,h⟩
end Go.Mq.Run
namespace Go.Proofs.YtechofppmnnomaaGreatDoor
open Go Go.RowKit Go.Mq Go.Mq.Tree Go.Mq.Run
open Go.Mq.Plan (MapIs getM putM run_getM run_getMok run_getNok)
open Go.Mq.Check (FewM FewS FewE argsN)
set_option maxRecDepth 100000
set_option maxHeartbeats 2000000
theorem zero_int (w:World) : (zeroValue 2).run Tryz.prog w = .ok (num 0) w:=by kernel_rfl
theorem zero_ints (w:World) : (zeroValue 41).run Tryz.prog w = .ok nils w:=by kernel_rfl
theorem zero_part (w:World) : (zeroValue 94).run Tryz.prog w = .ok nilp w:=by kernel_rfl
theorem look_local {w:World} {ob:Option Nat} {fr:Fr} (h:FrAt w ob fr) (n:Nm) : (Instr.lookup 165 (.map ob) (str n) true).run Tryz.prog w = .ok (.tuple #[num ((getF fr n).getD 0),.bool (getF fr n).isSome]) w:=by
 rcases h with⟨rfl,rfl⟩|⟨b,rfl,h⟩
 ·have:=run_getNok (P:=Tryz.prog) Tryz.underlying165 Tryz.underlying9 (zero_int w) n true
  rw [if_pos rfl] at this;exact this
 ·have:=run_getMok (P:=Tryz.prog) Tryz.underlying165 Tryz.underlying9 (zero_int w) h n
  rw [getM_fr] at this;cases hg : getF fr n <;> rw [hg] at this <;> exact this
theorem part_vars {w:World} {L:Lay} {d:Nat} {s:St} {ov:Value} {q:Nm} {m:Mod} (h:Going w L d s ov) (hq:L.M q=some m) : ∃ (c0 c1 c2 c3 c4:Value) (bv:Nat),Blk w (L.pb q) #[c0,c1,c2,c3,c4,.map (some bv)] 102∧L.Fix (L.pb q) ∧
  ∀ w' Z,Chg Z w w'→(∀ x∈Z,¬ L.Fix x) → ∀ n,(Instr.lookup 99 (.map (some bv)) (str n) false).run Tryz.prog w' = .ok (match L.dim q n with|some x=>.slice (some ⟨x.1,0,none⟩) x.2 x.2|none=>nils) w':=by
 obtain⟨_,bp,pes,_,_,_,_,hall⟩:=h.stat;have:=hall q;rw [hq] at this;obtain⟨_,hp1,_,ai,ci,av,cv,ap,cp,ab,cb,bv,es,h3,_,h5,h6,h7⟩:=this;refine⟨_,_,_,_,_,bv,h3,hp1,fun w' Z hc hZ n=>?_⟩;have hl:=run_getM (P:=Tryz.prog) Tryz.underlying99 Tryz.underlying9 (zero_ints w') (h6.kept hc fun hm=>hZ _ hm h5) n;rw [h7] at hl;rw [hl];cases L.dim q n <;> rfl
theorem world_parts {w:World} {L:Lay} {d:Nat} {s:St} {ov:Value} (h:Going w L d s ov) : ∃ (bp:Nat) (c1:Value),Blk w L.bw #[.map (some bp),c1] 40∧L.Fix L.bw ∧
  ∀ w' Z,Chg Z w w'→(∀ x∈Z,¬ L.Fix x) → ∀ q,(Instr.lookup 38 (.map (some bp)) (str q) false).run Tryz.prog w' = .ok (match L.M q with|some _=>ptr (L.pb q)|none=>nilp) w':=by
 obtain⟨h1,bp,pes,ov',h2,h3,h4,hall⟩:=h.stat;refine⟨bp,ov',h2,h1,fun w' Z hc hZ q=>?_⟩;have hl:=run_getM (P:=Tryz.prog) Tryz.underlying38 Tryz.underlying9 (zero_part w') (h4.kept hc fun hm=>hZ _ hm h3) q;have:=hall q;cases hq:L.M q with
 | none=>rw [hq] at this;simp only at this;rw [this] at hl;exact hl
 | some m=>rw [hq] at this;simp only at this;rw [this.1] at hl;exact hl
theorem e_num {L:Lay} {d:Nat} {q:Nm} {fr:Fr} {p:Nat} {n:Int} {s:St} {w:World} {ov:Value} {ob:Option Nat} {u:Value} (g:Nat) (h:Going w L d s ov) (hx:EAt w L.Fix (.num p n) [u]) :
  Calls Tryz.prog 117 #[ptr L.br,ptr (L.pb q),.map ob,u] w (Ran w L d ov [] (fun _ n e=>e = .returned (num n)) ((fns L.M (g + 1)).e d q fr (.num p n) s)):=by
 obtain⟨b,he,hF,hb⟩:=hx;cases he
 have H:=zh h;have hc0:Chg [] w (w.alloc (.cells #[ptr b] 166)):=(Chg.refl _ _).alloc _;have hb0:=hb.kept hc0 (by simp);have b0:=(Blk.new w #[ptr b] 166).cell 0 _ rfl;have d0:=hb0.cell 0 _ rfl;have d2:=hb0.cell 2 _ rfl;have d3:=hb0.cell 3 _ rfl;have HC0:=zh hc0;clear h hb hb0 hc0
 go_enter Tryz.func117,Tryz.ntmps117
 go_wp2_with fail;go_ret
 exact Ran.still H.out HC0.out rfl
theorem e_local {L:Lay} {d:Nat} {q:Nm} {fr:Fr} {p:Nat} {s:St} {w:World} {ov:Value} {ob:Option Nat} {u:Value} {n:Nm} {v:Int} (h:Going w L d s ov) (hfr:FrAt w ob fr) (hx:EAt w L.Fix (.var p [] n) [u]) (hv : getF fr n=some v) :
  Calls Tryz.prog 117 #[ptr L.br,ptr (L.pb q),.map ob,u] w (Ran w L d ov [] (fun _ n e=>e = .returned (num n)) (.ok v s)):=by
 obtain⟨b,he,hF,hb⟩:=hx;cases he
 obtain⟨wA,hwA⟩ : ∃ x,w.alloc (.cells #[ptr b] 166)=x:=⟨_,rfl⟩
 have hc0:Chg [] w wA:=by rw [← hwA];exact(Chg.refl _ _).alloc _
 have hb0:=hb.kept hc0 (by simp);have b0 : wA.cell? ⟨w.heap.size,0,none⟩=some (ptr b):=by rw [← hwA];exact(Blk.new w #[ptr b] 166).cell 0 _ rfl
 have HX:=zh hb0;have d0:=hb0.cell 0 _ rfl;have d3:=hb0.cell 3 _ rfl;have d4:=hb0.cell 4 _ rfl;have HC0:=zh hc0;have H:=zh (h.kept hc0);have HFR:=zh (hfr.kept hc0 (by simp));have hl:=look_local HFR.out n;rw [hv] at hl;clear h hb hb0 hc0 hfr hv
 go_enter Tryz.func117,Tryz.ntmps117
 go_wp2_with fail;go_ret
 exact(Ran.still H.out (Chg.refl _ _) rfl).after HC0.out
theorem dyn_var {w:World} {L:Lay} {d:Nat} {s:St} {ov:Value} (h:Going w L d s ov) {q n:Nm} {v:Int} {s':St} (hv : varO (s.vs q n) s' = .ok v s') : ∃ b k m,L.dim q n=some (b,k)∧1≤k∧k≤1000∧L.M q=some m∧w.cell? ⟨b,0,none⟩=some (num v):=by
 have:=h.dyn q n;cases hd:L.dim q n with
 | none=>rw [hd] at this;simp only at this;rw [this] at hv;cases hv
 | some x=>
  obtain⟨b,k⟩:=x;rw [hd] at this;obtain⟨l,h1,h2,h3⟩:=this;rw [h1] at hv;cases l with
  | nil=>cases hv
  | cons z l=>
   cases hv
   obtain⟨ha,hb1,hb2⟩:=h.lay.arr hd;cases hm:L.M q with
   | none=>have:=h.lay.there hd;rw [hm] at this;cases this
   | some m=>exact⟨b,k,m,rfl,hb1,hb2,rfl,h3.cell 0 _ rfl⟩
theorem varO_some {l:Option (List Int)} {s:St} (h : varO l s ≠ .stuck) : ∃ v,varO l s = .ok v s:=by
 match l,h with
 | some (v :: _),_=>exact⟨v,rfl⟩
 | some [],h=>exact absurd rfl h
 | none,h=>exact absurd rfl h
theorem e_own {L:Lay} {d:Nat} {q:Nm} {fr:Fr} {p:Nat} {s:St} {w:World} {ov:Value} {ob:Option Nat} {u:Value} {n:Nm} {v:Int} (h:Going w L d s ov) (hfr:FrAt w ob fr) (hx:EAt w L.Fix (.var p [] n) [u]) (hno : getF fr n=none) (hv : varO (s.vs q n) s = .ok v s) :
  Calls Tryz.prog 117 #[ptr L.br,ptr (L.pb q),.map ob,u] w (Ran w L d ov [] (fun _ n e=>e = .returned (num n)) (.ok v s)):=by
 obtain⟨b,he,hF,hb⟩:=hx;cases he
 obtain⟨wA,hwA⟩ : ∃ x,w.alloc (.cells #[ptr b] 166)=x:=⟨_,rfl⟩
 have hc0:Chg [] w wA:=by rw [← hwA];exact(Chg.refl _ _).alloc _
 have hb0:=hb.kept hc0 (by simp);have b0 : wA.cell? ⟨w.heap.size,0,none⟩=some (ptr b):=by rw [← hwA];exact(Blk.new w #[ptr b] 166).cell 0 _ rfl
 have HX:=zh hb0;have d0:=hb0.cell 0 _ rfl;have d3:=hb0.cell 3 _ rfl;have d4:=hb0.cell 4 _ rfl;have HC0:=zh hc0;have H:=zh (h.kept hc0);have HFR:=zh (hfr.kept hc0 (by simp));have hl:=look_local HFR.out n;rw [hno] at hl;obtain⟨bv,k,m',hd,hk1,hk2,hm,hcell⟩:=dyn_var H.out hv;obtain⟨c0,c1,c2,c3,c4,bm,hpb,hpf,hlk⟩:=part_vars H.out hm;have p5:=hpb.cell 5 _ rfl;have hl2:=hlk wA.drew [] (Chg.refl _ _).drew (by simp) n;rw [hd] at hl2;simp only at hl2;clear h hb hb0 hc0 hfr hno hv hlk hpb hd
 go_enter Tryz.func117,Tryz.ntmps117
 go_wp2_with fail
 go_region
 all_goals (try go_wp2_with fail)
 go_ret
 exact(Ran.still H.out (Chg.refl _ _).drew rfl).after HC0.out
theorem e_other {L:Lay} {d:Nat} {q:Nm} {fr:Fr} {p:Nat} {s:St} {w:World} {ov:Value} {ob:Option Nat} {u:Value} {mm n:Nm} {v:Int} (h:Going w L d s ov) (hfr:FrAt w ob fr) (hx:EAt w L.Fix (.var p mm n) [u]) (hmm : mm≠[]) (hv : varO (s.vs mm n) s = .ok v s) :
  Calls Tryz.prog 117 #[ptr L.br,ptr (L.pb q),.map ob,u] w (Ran w L d ov [] (fun _ n e=>e = .returned (num n)) (.ok v s)):=by
 obtain⟨b,he,hF,hb⟩:=hx;cases he
 obtain⟨wA,hwA⟩ : ∃ x,w.alloc (.cells #[ptr b] 166)=x:=⟨_,rfl⟩
 have hc0:Chg [] w wA:=by rw [← hwA];exact(Chg.refl _ _).alloc _
 have hb0:=hb.kept hc0 (by simp);have b0 : wA.cell? ⟨w.heap.size,0,none⟩=some (ptr b):=by rw [← hwA];exact(Blk.new w #[ptr b] 166).cell 0 _ rfl
 have HX:=zh hb0;have d0:=hb0.cell 0 _ rfl;have d3:=hb0.cell 3 _ rfl;have d4:=hb0.cell 4 _ rfl;have HC0:=zh hc0;have H:=zh (h.kept hc0);have HFR:=zh (hfr.kept hc0 (by simp));have r0:=H.out.run.cell 0 _ rfl;obtain⟨bp,wc1,hwb,hwf,hlw⟩:=world_parts H.out;have w0:=hwb.cell 0 _ rfl;have hl0:=hlw wA.drew [] (Chg.refl _ _).drew (by simp) mm;have hl:=look_local (HFR.out.kept (Chg.refl [] wA).drew (by simp)) n;obtain⟨bv,k,m',hd,hk1,hk2,hm,hcell⟩:=dyn_var H.out hv;rw [hm] at hl0;simp only at hl0;obtain⟨c0,c1,c2,c3,c4,bm,hpb,hpf,hlk⟩:=part_vars H.out hm;have p5:=hpb.cell 5 _ rfl;have hl2:=hlk wA.drew.drew [] (Chg.refl _ _).drew.drew (by simp) n;rw [hd] at hl2;simp only at hl2;have hm1 : (mm == [])=false:=by simpa using hmm
 have hm2 : (mm != [])=true:=by simpa using hmm
 obtain⟨gv,hgv⟩ : ∃ x,x=(getF fr n).getD 0:=⟨_,rfl⟩
 obtain⟨gb,hgb⟩ : ∃ x,x=(getF fr n).isSome:=⟨_,rfl⟩
 rw [← hgv,← hgb] at hl;clear h hb hb0 hc0 hfr hv hlk hpb hd hlw hwb hmm hgv hgb;cases gb with
 | true=>
  go_enter Tryz.func117,Tryz.ntmps117
  go_wp2_with fail
  go_region
  all_goals (try go_wp2_with fail)
  go_region
  all_goals (try go_wp2_with fail)
  go_ret
  exact(Ran.still H.out (Chg.refl _ _).drew.drew rfl).after HC0.out
 | false=>
  go_enter Tryz.func117,Tryz.ntmps117
  go_wp2_with fail
  go_region
  all_goals (try go_wp2_with fail)
  go_region
  all_goals (try go_wp2_with fail)
  go_ret
  exact(Ran.still H.out (Chg.refl _ _).drew.drew rfl).after HC0.out
end Go.Proofs.YtechofppmnnomaaGreatDoor
namespace Go.Mq.Run
open Go Go.RowKit Go.Mq Go.Mq.Tree
theorem Ran.done {α:Type} {w w1 w':World} {L:Lay} {d:Nat} {s':St} {ov ov':Value} {X:List Nat} {V:World→α→Ending→Prop} {a : α} {e:Ending} (hm:Moved w ov ov') (hc:Chg (mutL L ov) w w1) (h:Going w1 L d s' ov') (hc2:Chg [] w1 w') (hV:V w' a e):Ran w L d ov X V (.ok a s') e w':=
 ⟨ov',hm,(hc.then hc2.weak).mono (fun x hx=>.inl (List.mem_append_right _ hx)),hV,h.kept hc2⟩
theorem Ran.ended {α:Type} {w w1 w':World} {L:Lay} {d d':Nat} {s':St} {ov ov':Value} {X:List Nat} {V:World→α→Ending→Prop} {way:Nat} {e:Ending} (hm:Moved w ov ov') (hc:Chg (mutL L ov) w w1) (h:Going w1 L d' s' ov') (hc2:Chg [] w1 w') (hV:Stopped way e):Ran w L d ov X V (.stop way s':O α) e w':=
 ⟨ov',hm,(hc.then hc2.weak).mono (fun x hx=>.inl (List.mem_append_right _ hx)),hV,d',h.kept hc2⟩
theorem Ran.then {α:Type} {w w1 w':World} {L:Lay} {d:Nat} {ov ov':Value} {X:List Nat} {V:World→α→Ending→Prop} {o:O α} {e:Ending} (hm:Moved w ov ov') (hc:Chg (mutL L ov) w w1) (h:Ran w1 L d ov' X V o e w'):Ran w L d ov X V o e w':=by
 obtain⟨ov2,hm2,hc2,h⟩:=h;refine⟨ov2,hm.trans hc hm2,(hc.mono (fun x hx=>.inl (List.mem_append_right _ hx))).trans hc2 (fun x hx=>?_),h⟩;rcases List.mem_append.1 hx with hx|hx
 ·exact .inl (List.mem_append_left _ hx)
 ·rcases mutL_moved hc hm x hx with h|h
  ·exact .inl (List.mem_append_right _ h)
  ·exact .inr h
end Go.Mq.Run
namespace Go.Proofs.YtechofppmnnomaaGreatDoor
open Go Go.RowKit Go.Mq Go.Mq.Tree Go.Mq.Run
open Go.Mq.Plan (MapIs getM putM run_getM run_getMok run_getNok)
open Go.Mq.Check (FewM FewS FewE argsN)
set_option maxRecDepth 100000
set_option maxHeartbeats 2000000
theorem e_un (g:Nat) (hE:ConE g) {L:Lay} {d:Nat} {q:Nm} {fr:Fr} {p:Nat} {s:St} {w:World} {ov:Value} {ob:Option Nat} {u:Value} {m:Mod} {op:Nm} {x:E} (h:Going w L d s ov) (hq:L.M q=some m) (hfr:FrAt w ob fr) (hx:EAt w L.Fix (.un p op x) [u]) (hfe:FewE x) (ho : (fns L.M (g + 1)).e d q fr (.un p op x) s ≠ .stuck) :
  Calls Tryz.prog 117 #[ptr L.br,ptr (L.pb q),.map ob,u] w (Ran w L d ov [] (fun _ n e=>e = .returned (num n)) ((fns L.M (g + 1)).e d q fr (.un p op x) s)):=by
 obtain⟨b,ul,he,hF,hb,hxl⟩:=hx;cases he
 obtain⟨wA,hwA⟩ : ∃ x,w.alloc (.cells #[ptr b] 166)=x:=⟨_,rfl⟩
 have hc0:Chg [] w wA:=by rw [← hwA];exact(Chg.refl _ _).alloc _
 have hb0:=hb.kept hc0 (by simp);have hbx:Blk wA w.heap.size #[ptr b] 166:=by rw [← hwA];exact Blk.new w #[ptr b] 166
 have b0:=hbx.cell 0 _ rfl;have HX:=zh hb0;have HBX:=zh hbx;have HF:=zh hF;have d0:=hb0.cell 0 _ rfl;have d3:=hb0.cell 3 _ rfl;have d5:=hb0.cell 5 _ rfl;have d6:=hb0.cell 6 _ rfl;have HC0:=zh hc0;have H:=zh (h.kept hc0);have HFR:=zh (hfr.kept hc0 (by simp));obtain⟨tgt,ht⟩ : ∃ o,o=(fns L.M (g + 1)).e d q fr (.un p op x) s:=⟨_,rfl⟩
 have ht2 : tgt=((fns L.M g).e d q fr x s).bind (fun n s=>.ok (if op=[45] then wr (-n) else one (n == 0)) s):=ht;rw [← ht] at ho ⊢;have HCON:=zh (hE H.out hq HFR.out (hxl.kept hc0 (by simp)) hfe (fun hs=>ho (by rw [ht2,hs];rfl)));clear h hb hb0 hc0 hfr hxl hbx ht;cases hr : (fns L.M g).e d q fr x s with
 | stuck=>exact absurd (by rw [ht2,hr];rfl) ho
 | stop way s'=>
  rw [hr] at HCON;have HT:=zh (show tgt = .stop way s' by rw [ht2,hr];rfl);clear hr ht2 ho
  go_enter Tryz.func117,Tryz.ntmps117
  go_wp2_with fail;refine HCON.out.mono ?_;rintro e w1 ⟨ov',hm,hc,⟨older,hol,rfl⟩,d',hg⟩;have HM:=zh hm;have HC:=zh hc;have HG:=zh hg;clear hm hc hg;go_wp2_with fail;refine⟨rfl,?_⟩;rw [HT.out];exact Ran.after (Ran.ended HM.out HC.out HG.out (Chg.refl _ _) ⟨older,hol,rfl⟩) HC0.out
 | ok v s'=>
  rw [hr] at HCON;by_cases hop : op=[45]
  ·have HT:=zh (show tgt = .ok (wr (-v)) s' by rw [ht2,hr,O.bind,if_pos hop])
   clear hr ht2 ho;subst hop
   go_enter Tryz.func117,Tryz.ntmps117
   go_wp2_with fail;refine HCON.out.mono ?_;rintro e w1 ⟨ov',hm,hc,rfl,hg⟩;have hnx : b∉mutL L ov:=fun hm=>H.out.notfix b hm HF.out
   have b0':=hc.cellSome b0 (by simpa using H.out.notblk HBX.out (by decide) (by decide));have d5':=hc.cellSome d5 (by simpa using hnx);have HM:=zh hm;have HC:=zh hc;have HG:=zh hg;clear hm hc hg hnx b0 d5 d0 d3 d6;go_wp2_with fail;go_ret
   rw [HT.out];exact Ran.after (Ran.done HM.out HC.out HG.out (Chg.refl _ _) rfl) HC0.out
  ·have HT:=zh (show tgt = .ok (one (v == 0)) s' by rw [ht2,hr,O.bind,if_neg hop])
   have hop1 : (op == [45])=false:=by simpa using hop
   have HO:=zh (fun w=>rone_any (v == 0) w);clear hop hr ht2 ho
   go_enter Tryz.func117,Tryz.ntmps117
   go_wp2_with fail;refine HCON.out.mono ?_;rintro e w1 ⟨ov',hm,hc,rfl,hg⟩;have hnx : b∉mutL L ov:=fun hm=>H.out.notfix b hm HF.out
   have b0':=hc.cellSome b0 (by simpa using H.out.notblk HBX.out (by decide) (by decide));have d5':=hc.cellSome d5 (by simpa using hnx);have HM:=zh hm;have HC:=zh hc;have HG:=zh hg;clear hm hc hg hnx b0 d5 d0 d3 d6;go_wp2_with fail;refine(HO.out w1).mono ?_;rintro _ _ ⟨rfl,hw⟩;have hw:=hw.symm;subst hw;go_wp2_with fail;go_ret
   rw [HT.out];exact Ran.after (Ran.done HM.out HC.out HG.out (Chg.refl _ _) rfl) HC0.out
end Go.Proofs.YtechofppmnnomaaGreatDoor
namespace Go.Proofs.YtechofppmnnomaaGreatDoor
open Go Go.RowKit Go.Mq Go.Mq.Tree Go.Mq.Run
open Go.Mq.Check (FewM FewS FewE argsN)
set_option maxRecDepth 100000
set_option maxHeartbeats 4000000
theorem e_and (g:Nat) (hE:ConE g) {L:Lay} {d:Nat} {q:Nm} {fr:Fr} {p:Nat} {s:St} {w:World} {ov:Value} {ob:Option Nat} {u:Value} {m:Mod} {x y:E} (h:Going w L d s ov) (hq:L.M q=some m) (hfr:FrAt w ob fr) (hx:EAt w L.Fix (.bin p [97,110,100] x y) [u]) (hfe:FewE x∧FewE y) (ho : (fns L.M (g + 1)).e d q fr (.bin p [97,110,100] x y) s ≠ .stuck) :
  Calls Tryz.prog 117 #[ptr L.br,ptr (L.pb q),.map ob,u] w (Ran w L d ov [] (fun _ n e=>e = .returned (num n)) ((fns L.M (g + 1)).e d q fr (.bin p [97,110,100] x y) s)):=by
 obtain⟨b,ul,ur,he,hF,hb,hxl,hyl⟩:=hx;cases he
 obtain⟨wA,hwA⟩ : ∃ x,w.alloc (.cells #[ptr b] 166)=x:=⟨_,rfl⟩
 have hc0:Chg [] w wA:=by rw [← hwA];exact(Chg.refl _ _).alloc _
 have hb0:=hb.kept hc0 (by simp);have hbx:Blk wA w.heap.size #[ptr b] 166:=by rw [← hwA];exact Blk.new w #[ptr b] 166
 have b0:=hbx.cell 0 _ rfl;have HX:=zh hb0;have HBX:=zh hbx;have HF:=zh hF;have d0:=hb0.cell 0 _ rfl;have d3:=hb0.cell 3 _ rfl;have d5:=hb0.cell 5 _ rfl;have d6:=hb0.cell 6 _ rfl;have HC0:=zh hc0;have H:=zh (h.kept hc0);have HFR:=zh (hfr.kept hc0 (by simp));obtain⟨tgt,ht⟩ : ∃ o,o=(fns L.M (g + 1)).e d q fr (.bin p [97,110,100] x y) s:=⟨_,rfl⟩
 have ht2 : tgt=((fns L.M g).e d q fr x s).bind (fun a s=>if [97,110,100]=[97,110,100]∨[97,110,100]=[111,114] then
    if (a != 0)=decide ([97,110,100]=[111,114]) then .ok (one (a != 0)) s else ((fns L.M g).e d q fr y s).bind fun b s=>.ok (one (b != 0)) s
   else ((fns L.M g).e d q fr y s).bind fun b s=>match both [97,110,100] a b with
    | some n=>.ok n s
    | none=>.stop 2 s):=ht
 rw [← ht] at ho ⊢;have HCON:=zh (hE H.out hq HFR.out (hxl.kept hc0 (by simp)) hfe.1 (fun hs=>ho (by rw [ht2,hs];rfl)));have HYL:=zh (hyl.kept hc0 (by simp));have HQ:=zh hq;have HFE:=zh hfe.2;clear h hb hb0 hc0 hfr hxl hyl hbx ht hq hfe;cases hr : (fns L.M g).e d q fr x s with
 | stuck=>exact absurd (by rw [ht2,hr];rfl) ho
 | stop way s'=>
  rw [hr] at HCON;have HT:=zh (show tgt = .stop way s' by rw [ht2,hr];rfl);clear hr ht2 ho
  go_enter Tryz.func117,Tryz.ntmps117
  go_wp2_with fail;refine HCON.out.mono ?_;rintro e w1 ⟨ov',hm,hc,⟨older,hol,rfl⟩,d',hg⟩;have HM:=zh hm;have HC:=zh hc;have HG:=zh hg;clear hm hc hg;go_wp2_with fail;refine⟨rfl,?_⟩;rw [HT.out];exact Ran.after (Ran.ended HM.out HC.out HG.out (Chg.refl _ _) ⟨older,hol,rfl⟩) HC0.out
 | ok v s'=>
  rw [hr] at HCON;rw [hr] at ht2;have HR:=zh hr;clear hr;cases hsh : (v == 0) with
  | true=>
   have t1 : (v != 0)=false:=by simpa using hsh
   have t2 : decide (v=0)=true:=by simpa using hsh
   have HT:=zh (show tgt = .ok (one false) s' by rw [ht2,O.bind,if_pos (by decide),if_pos (by simpa using hsh),t1]);have HO:=zh (fun w=>rone_any false w);clear ht2 ho hsh
   go_enter Tryz.func117,Tryz.ntmps117
   go_wp2_with fail;refine HCON.out.mono ?_;rintro e w1 ⟨ov',hm,hc,rfl,hg⟩;have hnb : w.heap.size∉mutL L ov:=H.out.notblk HBX.out (by decide) (by decide);have hnx : b∉mutL L ov:=fun hm=>H.out.notfix b hm HF.out
   have HNB:=zh (notmut_moved (L:=L) hm HBX.out.lt hnb);have HNX:=zh (notmut_moved (L:=L) hm HX.out.lt hnx);have HX1:=zh (HX.out.kept hc (by simpa using hnx));have HBX1:=zh (HBX.out.kept hc (by simpa using hnb));have HFR1:=zh (HFR.out.kept hc (by simpa using HFR.out.notmut H.out));have HYL1:=zh (HYL.out.kept hc (by simpa using H.out.notfix));have HM:=zh hm;have HC:=zh hc;have HG:=zh hg;have b0':=HBX1.out.cell 0 _ rfl;have d5':=HX1.out.cell 5 _ rfl;have d7':=HX1.out.cell 7 _ rfl;clear hm hc hg hnx hnb b0 d5 d0 d3 d6 hwA;go_wp2_with fail;refine(HO.out w1).mono ?_;rintro _ _ ⟨rfl,hw⟩;have hw:=hw.symm;subst hw;go_wp2_with fail;go_ret
   rw [HT.out];exact Ran.after (Ran.done HM.out HC.out HG.out (Chg.refl _ _) rfl) HC0.out
  | false=>
   have ht3 : tgt=((fns L.M g).e d q fr y s').bind fun b s=>.ok (one (b != 0)) s:=by rw [ht2,O.bind,if_pos (by decide),if_neg (by simpa using hsh)]
   have t1 : (v != 0)=true:=by simpa using hsh
   have t2 : decide (v=0)=false:=by simpa using hsh
   clear ht2 hsh
   go_enter Tryz.func117,Tryz.ntmps117
   go_wp2_with fail;refine HCON.out.mono ?_;rintro e w1 ⟨ov',hm,hc,rfl,hg⟩;have hnb : w.heap.size∉mutL L ov:=H.out.notblk HBX.out (by decide) (by decide);have hnx : b∉mutL L ov:=fun hm=>H.out.notfix b hm HF.out
   have HNB:=zh (notmut_moved (L:=L) hm HBX.out.lt hnb);have HNX:=zh (notmut_moved (L:=L) hm HX.out.lt hnx);have HX1:=zh (HX.out.kept hc (by simpa using hnx));have HBX1:=zh (HBX.out.kept hc (by simpa using hnb));have HFR1:=zh (HFR.out.kept hc (by simpa using HFR.out.notmut H.out));have HYL1:=zh (HYL.out.kept hc (by simpa using H.out.notfix));have HM:=zh hm;have HC:=zh hc;have HG:=zh hg;have b0':=HBX1.out.cell 0 _ rfl;have d5':=HX1.out.cell 5 _ rfl;have d7':=HX1.out.cell 7 _ rfl;clear hm hc hg hnx hnb b0 d5 d0 d3 d6 hwA;have HCY:=zh (hE HG.out HQ.out HFR1.out HYL1.out HFE.out (fun hs=>ho (by rw [ht3,hs];rfl)));cases hr2 : (fns L.M g).e d q fr y s' with
   | stuck=>exact absurd (by rw [ht3,hr2];rfl) ho
   | stop way s2=>
    rw [hr2] at HCY;have HT:=zh (show tgt = .stop way s2 by rw [ht3,hr2];rfl);clear hr2 ht3 ho;go_wp2_with fail;refine HCY.out.mono ?_;rintro e w2 ⟨ov2,hm,hc,⟨older,hol,rfl⟩,d',hg⟩;have HM2:=zh hm;have HC2:=zh hc;have HG2:=zh hg;clear hm hc hg;go_wp2_with fail;refine⟨rfl,?_⟩;rw [HT.out];exact Ran.after (Ran.then HM.out HC.out (Ran.ended HM2.out HC2.out HG2.out (Chg.refl _ _) ⟨older,hol,rfl⟩)) HC0.out
   | ok v2 s2=>
    rw [hr2] at HCY;have HT:=zh (show tgt = .ok (one (v2 != 0)) s2 by rw [ht3,hr2];rfl);have HO:=zh (fun w=>rone_any (v2 != 0) w);clear hr2 ht3 ho;go_wp2_with fail;refine HCY.out.mono ?_;rintro e w2 ⟨ov2,hm,hc,rfl,hg⟩;have HM2:=zh hm;have HC2:=zh hc;have HG2:=zh hg;clear hm hc hg;go_wp2_with fail;refine(HO.out w2).mono ?_;rintro _ _ ⟨rfl,hw⟩;have hw:=hw.symm;subst hw;go_wp2_with fail;go_ret
    rw [HT.out];exact Ran.after (Ran.then HM.out HC.out (Ran.done HM2.out HC2.out HG2.out (Chg.refl _ _) rfl)) HC0.out
theorem e_or (g:Nat) (hE:ConE g) {L:Lay} {d:Nat} {q:Nm} {fr:Fr} {p:Nat} {s:St} {w:World} {ov:Value} {ob:Option Nat} {u:Value} {m:Mod} {x y:E} (h:Going w L d s ov) (hq:L.M q=some m) (hfr:FrAt w ob fr) (hx:EAt w L.Fix (.bin p [111,114] x y) [u]) (hfe:FewE x∧FewE y) (ho : (fns L.M (g + 1)).e d q fr (.bin p [111,114] x y) s ≠ .stuck) :
  Calls Tryz.prog 117 #[ptr L.br,ptr (L.pb q),.map ob,u] w (Ran w L d ov [] (fun _ n e=>e = .returned (num n)) ((fns L.M (g + 1)).e d q fr (.bin p [111,114] x y) s)):=by
 obtain⟨b,ul,ur,he,hF,hb,hxl,hyl⟩:=hx;cases he
 obtain⟨wA,hwA⟩ : ∃ x,w.alloc (.cells #[ptr b] 166)=x:=⟨_,rfl⟩
 have hc0:Chg [] w wA:=by rw [← hwA];exact(Chg.refl _ _).alloc _
 have hb0:=hb.kept hc0 (by simp);have hbx:Blk wA w.heap.size #[ptr b] 166:=by rw [← hwA];exact Blk.new w #[ptr b] 166
 have b0:=hbx.cell 0 _ rfl;have HX:=zh hb0;have HBX:=zh hbx;have HF:=zh hF;have d0:=hb0.cell 0 _ rfl;have d3:=hb0.cell 3 _ rfl;have d5:=hb0.cell 5 _ rfl;have d6:=hb0.cell 6 _ rfl;have HC0:=zh hc0;have H:=zh (h.kept hc0);have HFR:=zh (hfr.kept hc0 (by simp));obtain⟨tgt,ht⟩ : ∃ o,o=(fns L.M (g + 1)).e d q fr (.bin p [111,114] x y) s:=⟨_,rfl⟩
 have ht2 : tgt=((fns L.M g).e d q fr x s).bind (fun a s=>if [111,114]=[97,110,100]∨[111,114]=[111,114] then
    if (a != 0)=decide ([111,114]=[111,114]) then .ok (one (a != 0)) s else ((fns L.M g).e d q fr y s).bind fun b s=>.ok (one (b != 0)) s
   else ((fns L.M g).e d q fr y s).bind fun b s=>match both [111,114] a b with
    | some n=>.ok n s
    | none=>.stop 2 s):=ht
 rw [← ht] at ho ⊢;have HCON:=zh (hE H.out hq HFR.out (hxl.kept hc0 (by simp)) hfe.1 (fun hs=>ho (by rw [ht2,hs];rfl)));have HYL:=zh (hyl.kept hc0 (by simp));have HQ:=zh hq;have HFE:=zh hfe.2;clear h hb hb0 hc0 hfr hxl hyl hbx ht hq hfe;cases hr : (fns L.M g).e d q fr x s with
 | stuck=>exact absurd (by rw [ht2,hr];rfl) ho
 | stop way s'=>
  rw [hr] at HCON;have HT:=zh (show tgt = .stop way s' by rw [ht2,hr];rfl);clear hr ht2 ho
  go_enter Tryz.func117,Tryz.ntmps117
  go_wp2_with fail;refine HCON.out.mono ?_;rintro e w1 ⟨ov',hm,hc,⟨older,hol,rfl⟩,d',hg⟩;have HM:=zh hm;have HC:=zh hc;have HG:=zh hg;clear hm hc hg;go_wp2_with fail;refine⟨rfl,?_⟩;rw [HT.out];exact Ran.after (Ran.ended HM.out HC.out HG.out (Chg.refl _ _) ⟨older,hol,rfl⟩) HC0.out
 | ok v s'=>
  rw [hr] at HCON;rw [hr] at ht2;have HR:=zh hr;clear hr;cases hsh : (v != 0) with
  | true=>
   have t1 : (v != 0)=true:=hsh;have HT:=zh (show tgt = .ok (one true) s' by rw [ht2,O.bind,if_pos (by decide),if_pos (by simpa using hsh),t1]);have HO:=zh (fun w=>rone_any true w);clear ht2 ho hsh
   go_enter Tryz.func117,Tryz.ntmps117
   go_wp2_with fail;refine HCON.out.mono ?_;rintro e w1 ⟨ov',hm,hc,rfl,hg⟩;have hnb : w.heap.size∉mutL L ov:=H.out.notblk HBX.out (by decide) (by decide);have hnx : b∉mutL L ov:=fun hm=>H.out.notfix b hm HF.out
   have HNB:=zh (notmut_moved (L:=L) hm HBX.out.lt hnb);have HNX:=zh (notmut_moved (L:=L) hm HX.out.lt hnx);have HX1:=zh (HX.out.kept hc (by simpa using hnx));have HBX1:=zh (HBX.out.kept hc (by simpa using hnb));have HFR1:=zh (HFR.out.kept hc (by simpa using HFR.out.notmut H.out));have HYL1:=zh (HYL.out.kept hc (by simpa using H.out.notfix));have HM:=zh hm;have HC:=zh hc;have HG:=zh hg;have b0':=HBX1.out.cell 0 _ rfl;have d5':=HX1.out.cell 5 _ rfl;have d7':=HX1.out.cell 7 _ rfl;clear hm hc hg hnx hnb b0 d5 d0 d3 d6 hwA;go_wp2_with fail;refine(HO.out w1).mono ?_;rintro _ _ ⟨rfl,hw⟩;have hw:=hw.symm;subst hw;go_wp2_with fail;go_ret
   rw [HT.out];exact Ran.after (Ran.done HM.out HC.out HG.out (Chg.refl _ _) rfl) HC0.out
  | false=>
   have ht3 : tgt=((fns L.M g).e d q fr y s').bind fun b s=>.ok (one (b != 0)) s:=by rw [ht2,O.bind,if_pos (by decide),if_neg (by simpa using hsh)]
   have t1 : (v != 0)=false:=hsh;clear ht2 hsh
   go_enter Tryz.func117,Tryz.ntmps117
   go_wp2_with fail;refine HCON.out.mono ?_;rintro e w1 ⟨ov',hm,hc,rfl,hg⟩;have hnb : w.heap.size∉mutL L ov:=H.out.notblk HBX.out (by decide) (by decide);have hnx : b∉mutL L ov:=fun hm=>H.out.notfix b hm HF.out
   have HNB:=zh (notmut_moved (L:=L) hm HBX.out.lt hnb);have HNX:=zh (notmut_moved (L:=L) hm HX.out.lt hnx);have HX1:=zh (HX.out.kept hc (by simpa using hnx));have HBX1:=zh (HBX.out.kept hc (by simpa using hnb));have HFR1:=zh (HFR.out.kept hc (by simpa using HFR.out.notmut H.out));have HYL1:=zh (HYL.out.kept hc (by simpa using H.out.notfix));have HM:=zh hm;have HC:=zh hc;have HG:=zh hg;have b0':=HBX1.out.cell 0 _ rfl;have d5':=HX1.out.cell 5 _ rfl;have d7':=HX1.out.cell 7 _ rfl;clear hm hc hg hnx hnb b0 d5 d0 d3 d6 hwA;have HCY:=zh (hE HG.out HQ.out HFR1.out HYL1.out HFE.out (fun hs=>ho (by rw [ht3,hs];rfl)));cases hr2 : (fns L.M g).e d q fr y s' with
   | stuck=>exact absurd (by rw [ht3,hr2];rfl) ho
   | stop way s2=>
    rw [hr2] at HCY;have HT:=zh (show tgt = .stop way s2 by rw [ht3,hr2];rfl);clear hr2 ht3 ho;go_wp2_with fail;refine HCY.out.mono ?_;rintro e w2 ⟨ov2,hm,hc,⟨older,hol,rfl⟩,d',hg⟩;have HM2:=zh hm;have HC2:=zh hc;have HG2:=zh hg;clear hm hc hg;go_wp2_with fail;refine⟨rfl,?_⟩;rw [HT.out];exact Ran.after (Ran.then HM.out HC.out (Ran.ended HM2.out HC2.out HG2.out (Chg.refl _ _) ⟨older,hol,rfl⟩)) HC0.out
   | ok v2 s2=>
    rw [hr2] at HCY;have HT:=zh (show tgt = .ok (one (v2 != 0)) s2 by rw [ht3,hr2];rfl);have HO:=zh (fun w=>rone_any (v2 != 0) w);clear hr2 ht3 ho;go_wp2_with fail;refine HCY.out.mono ?_;rintro e w2 ⟨ov2,hm,hc,rfl,hg⟩;have HM2:=zh hm;have HC2:=zh hc;have HG2:=zh hg;clear hm hc hg;go_wp2_with fail;refine(HO.out w2).mono ?_;rintro _ _ ⟨rfl,hw⟩;have hw:=hw.symm;subst hw;go_wp2_with fail;go_ret
    rw [HT.out];exact Ran.after (Ran.then HM.out HC.out (Ran.done HM2.out HC2.out HG2.out (Chg.refl _ _) rfl)) HC0.out
theorem e_two (g:Nat) (hE:ConE g) {L:Lay} {d:Nat} {q:Nm} {fr:Fr} {p:Nat} {s:St} {w:World} {ov:Value} {ob:Option Nat} {u:Value} {m:Mod} {op:Nm} {x y:E} (h:Going w L d s ov) (hq:L.M q=some m) (hfr:FrAt w ob fr) (hx:EAt w L.Fix (.bin p op x y) [u]) (hfe:FewE x∧FewE y) (hop1 : op≠[97,110,100]) (hop2 : op≠[111,114]) (ho : (fns L.M (g + 1)).e d q fr (.bin p op x y) s ≠ .stuck) :
  Calls Tryz.prog 117 #[ptr L.br,ptr (L.pb q),.map ob,u] w (Ran w L d ov [] (fun _ n e=>e = .returned (num n)) ((fns L.M (g + 1)).e d q fr (.bin p op x y) s)):=by
 obtain⟨b,ul,ur,he,hF,hb,hxl,hyl⟩:=hx;cases he
 obtain⟨wA,hwA⟩ : ∃ x,w.alloc (.cells #[ptr b] 166)=x:=⟨_,rfl⟩
 have hc0:Chg [] w wA:=by rw [← hwA];exact(Chg.refl _ _).alloc _
 have hb0:=hb.kept hc0 (by simp);have hbx:Blk wA w.heap.size #[ptr b] 166:=by rw [← hwA];exact Blk.new w #[ptr b] 166
 have b0:=hbx.cell 0 _ rfl;have HX:=zh hb0;have HBX:=zh hbx;have HF:=zh hF;have d0:=hb0.cell 0 _ rfl;have d3:=hb0.cell 3 _ rfl;have d5:=hb0.cell 5 _ rfl;have d6:=hb0.cell 6 _ rfl;have HC0:=zh hc0;have H:=zh (h.kept hc0);have HFR:=zh (hfr.kept hc0 (by simp));obtain⟨tgt,ht⟩ : ∃ o,o=(fns L.M (g + 1)).e d q fr (.bin p op x y) s:=⟨_,rfl⟩
 have ht2 : tgt=((fns L.M g).e d q fr x s).bind (fun a s=>if op=[97,110,100]∨op=[111,114] then
    if (a != 0)=decide (op=[111,114]) then .ok (one (a != 0)) s else ((fns L.M g).e d q fr y s).bind fun b s=>.ok (one (b != 0)) s
   else ((fns L.M g).e d q fr y s).bind fun b s=>match both op a b with
    | some n=>.ok n s
    | none=>.stop 2 s):=ht
 rw [← ht] at ho ⊢;have HCON:=zh (hE H.out hq HFR.out (hxl.kept hc0 (by simp)) hfe.1 (fun hs=>ho (by rw [ht2,hs];rfl)));have HYL:=zh (hyl.kept hc0 (by simp));have HQ:=zh hq;have HFE:=zh hfe.2;clear h hb hb0 hc0 hfr hxl hyl hbx ht hq hfe;cases hr : (fns L.M g).e d q fr x s with
 | stuck=>exact absurd (by rw [ht2,hr];rfl) ho
 | stop way s'=>
  rw [hr] at HCON;have HT:=zh (show tgt = .stop way s' by rw [ht2,hr];rfl);clear hr ht2 ho
  go_enter Tryz.func117,Tryz.ntmps117
  go_wp2_with fail;refine HCON.out.mono ?_;rintro e w1 ⟨ov',hm,hc,⟨older,hol,rfl⟩,d',hg⟩;have HM:=zh hm;have HC:=zh hc;have HG:=zh hg;clear hm hc hg;go_wp2_with fail;refine⟨rfl,?_⟩;rw [HT.out];exact Ran.after (Ran.ended HM.out HC.out HG.out (Chg.refl _ _) ⟨older,hol,rfl⟩) HC0.out
 | ok v s'=>
  rw [hr] at HCON;rw [hr] at ht2;have HR:=zh hr;clear hr;have hcond : ¬ (op=[97,110,100]∨op=[111,114]):=fun hh=>hh.elim hop1 hop2
  have ht3 : tgt=((fns L.M g).e d q fr y s').bind fun b s=>match both op v b with
    | some n=>.ok n s
    | none=>.stop 2 s:=by rw [ht2,O.bind,if_neg hcond]
  have k1 : (op == [97,110,100])=false:=by simpa using hop1
  have k2 : (op == [111,114])=false:=by simpa using hop2
  clear ht2 hcond hop1 hop2
  go_enter Tryz.func117,Tryz.ntmps117
  go_wp2_with fail;refine HCON.out.mono ?_;rintro e w1 ⟨ov',hm,hc,rfl,hg⟩;have hnb : w.heap.size∉mutL L ov:=H.out.notblk HBX.out (by decide) (by decide);have hnx : b∉mutL L ov:=fun hm=>H.out.notfix b hm HF.out
  have HNB:=zh (notmut_moved (L:=L) hm HBX.out.lt hnb);have HNX:=zh (notmut_moved (L:=L) hm HX.out.lt hnx);have HX1:=zh (HX.out.kept hc (by simpa using hnx));have HBX1:=zh (HBX.out.kept hc (by simpa using hnb));have HFR1:=zh (HFR.out.kept hc (by simpa using HFR.out.notmut H.out));have HYL1:=zh (HYL.out.kept hc (by simpa using H.out.notfix));have HM:=zh hm;have HC:=zh hc;have HG:=zh hg;have b0':=HBX1.out.cell 0 _ rfl;have d5':=HX1.out.cell 5 _ rfl;have d7':=HX1.out.cell 7 _ rfl;clear hm hc hg hnx hnb b0 d5 d0 d3 d6 hwA;obtain⟨wD,hwD⟩ : ∃ x,x=w1.drew:=⟨_,rfl⟩
  have hcD:Chg [] w1 wD:=by rw [hwD];exact(Chg.refl [] w1).drew
  have HCD:=zh hcD;have HCY:=zh (hE (HG.out.kept hcD) HQ.out (HFR1.out.kept hcD (by simp)) (HYL1.out.kept hcD (by simp)) HFE.out (fun hs=>ho (by rw [ht3,hs];rfl)));have q0:=(HBX1.out.kept hcD (by simp)).cell 0 _ rfl;have q5:=(HX1.out.kept hcD (by simp)).cell 5 _ rfl;have q7:=(HX1.out.kept hcD (by simp)).cell 7 _ rfl;have Z1:=zh (Zone.of (X:=mutL L ov') q0 HNB.out);have Z2:=zh (Zone.of (X:=mutL L ov') q5 HNX.out);clear hcD;cases hr2 : (fns L.M g).e d q fr y s' with
  | stuck=>exact absurd (by rw [ht3,hr2];rfl) ho
  | stop way s2=>
   rw [hr2] at HCY;have HT:=zh (show tgt = .stop way s2 by rw [ht3,hr2];rfl);clear hr2 ht3 ho;go_wp2_with fail;refine wp_region_Q isEffL (mutL L ov') rfl (by kernel_rfl) ?_;rw [← hwD];clear hwD;have hS:Chg (mutL L ov') wD wD:=Chg.refl _ _
   repeat ((with_reducible show wpQ _ _ _ _ _ _ _ _ _);(first|refine wpQ_nil ?_|refine wpQ_skip rfl ?_|refine wpQ_mv rfl rfl (by kernel_rfl) (fun _ _=>?_)|refine wpQ_ldC rfl rfl rfl (by first|exact Z1.out|exact Z2.out) (by assumption) (fun _ _=>?_));go_wp2_with fail)
   refine wpQ_ef rfl rfl (fun K Q hK hQ=>?_);go_wp2_with fail;refine HCY.out.mono ?_;rintro e w2 ⟨ov2,hm,hc,⟨older,hol,rfl⟩,d',hg⟩;have HM2:=zh hm;have HC2:=zh hc;have HG2:=zh hg;clear hm hc hg;refine hQ _ _ _ (fun a' ha=>?_);refine⟨ha,?_⟩;rw [HT.out];exact Ran.after (Ran.then HM.out HC.out (Ran.after (Ran.ended HM2.out HC2.out HG2.out (Chg.refl _ _) ⟨older,hol,rfl⟩) HCD.out)) HC0.out
  | ok v2 s2=>
   rw [hr2] at HCY;have ht4 : tgt=match both op v v2 with
    | some n=>.ok n s2
    | none=>.stop 2 s2:=by rw [ht3,hr2];rfl
   have HBO:=zh (fun w=>both_any op v v2 w);clear hr2 ht3 ho;go_wp2_with fail;refine wp_region_Q isEffL (mutL L ov') rfl (by kernel_rfl) ?_;rw [← hwD];clear hwD;have hS:Chg (mutL L ov') wD wD:=Chg.refl _ _
   repeat ((with_reducible show wpQ _ _ _ _ _ _ _ _ _);(first|refine wpQ_nil ?_|refine wpQ_skip rfl ?_|refine wpQ_mv rfl rfl (by kernel_rfl) (fun _ _=>?_)|refine wpQ_ldC rfl rfl rfl (by first|exact Z1.out|exact Z2.out) (by assumption) (fun _ _=>?_));go_wp2_with fail)
   refine wpQ_ef rfl rfl (fun K Q hK hQ=>?_);go_wp2_with fail;refine HCY.out.mono ?_;rintro e w2 ⟨ov2,hm,hc,rfl,hg⟩;have HM2:=zh hm;have HC2:=zh hc;have HG2:=zh hg;clear hm hc hg hS;go_wp2_with fail;refine⟨HC2.out,?_⟩;have hS:=HC2.out
   repeat ((with_reducible show wpQ _ _ _ _ _ _ _ _ _);(first|refine wpQ_nil ?_|refine wpQ_skip rfl ?_|refine wpQ_mv rfl rfl (by kernel_rfl) (fun _ _=>?_)|refine wpQ_ldC rfl rfl rfl (by first|exact Z1.out|exact Z2.out) (by assumption) (fun _ _=>?_));go_wp2_with fail)
   refine wpQ_ef rfl rfl (fun K Q hK hQ=>?_);go_wp2_with fail;refine(HBO.out w2).mono ?_;rintro e w3 ⟨hbo,hc3⟩;have HC3:=zh hc3;cases hbb : both op v v2 with
   | some n=>
    rw [hbb] at hbo ht4;simp only [BothOut] at hbo;subst hbo;have HT:=zh (show tgt = .ok n s2 from ht4);clear hc3 ht4 hbb hS;go_wp2_with fail;refine⟨HC2.out.then HC3.out.weak,?_⟩;have hS:=HC2.out.then HC3.out.weak
    repeat ((with_reducible show wpQ _ _ _ _ _ _ _ _ _);(first|refine wpQ_nil ?_|refine wpQ_skip rfl ?_|refine wpQ_mv rfl rfl (by kernel_rfl) (fun _ _=>?_)|refine wpQ_ldC rfl rfl rfl (by first|exact Z1.out|exact Z2.out) (by assumption) (fun _ _=>?_));go_wp2_with fail)
    clear hS q0 q5 q7 b0' d5' d7';go_wp2_with fail;go_ret
    rw [HT.out];exact Ran.after (Ran.then HM.out HC.out (Ran.after (Ran.done HM2.out HC2.out HG2.out HC3.out rfl) HCD.out)) HC0.out
   | none=>
    rw [hbb] at hbo ht4;simp only [BothOut] at hbo;subst hbo;have HT:=zh (show tgt = .stop 2 s2 from ht4);have HS:=zh (fun w=>rstop_any 2 w);clear hc3 ht4 hbb hS;go_wp2_with fail;refine⟨HC2.out.then HC3.out.weak,?_⟩;have hS:=HC2.out.then HC3.out.weak
    repeat ((with_reducible show wpQ _ _ _ _ _ _ _ _ _);(first|refine wpQ_nil ?_|refine wpQ_skip rfl ?_|refine wpQ_mv rfl rfl (by kernel_rfl) (fun _ _=>?_)|refine wpQ_ldC rfl rfl rfl (by first|exact Z1.out|exact Z2.out) (by assumption) (fun _ _=>?_));go_wp2_with fail)
    clear hS q0 q5 q7 b0' d5' d7';go_wp2_with fail;refine(HS.out w3).mono ?_;rintro _ _ ⟨⟨older,hol,rfl⟩,hw⟩;have hw:=hw.symm;subst hw;go_wp2_with fail;refine⟨rfl,?_⟩;rw [HT.out];exact Ran.after (Ran.then HM.out HC.out (Ran.after (Ran.ended HM2.out HC2.out HG2.out HC3.out ⟨older,hol,rfl⟩) HCD.out)) HC0.out
end Go.Proofs.YtechofppmnnomaaGreatDoor
namespace Go.Mq.Run
open Go Go.RowKit Go.Mq Go.Mq.Tree
theorem dyn_item {w:World} {L:Lay} {d:Nat} {s:St} {ov:Value} (h:Going w L d s ov) {q n:Nm} {b k:Nat} (hd:L.dim q n=some (b,k)) : ∃ l:List Int,s.vs q n=some l∧l.length=k ∧ ∀ i,i < k→w.cell? ⟨b,i,none⟩=some (num (l.getD i 0)):=by
 have:=h.dyn q n;rw [hd] at this;obtain⟨l,h1,h2,h3⟩:=this;refine⟨l,h1,h2,fun i hi=>h3.cell i _ ?_⟩;have hi' : i < l.length:=by omega
 simp [hi']
end Go.Mq.Run
namespace Go.Proofs.YtechofppmnnomaaGreatDoor
open Go Go.RowKit Go.Mq Go.Mq.Tree Go.Mq.Run
open Go.Mq.Check (FewM FewS FewE argsN)
set_option maxRecDepth 100000
set_option maxHeartbeats 4000000
theorem e_item_own (g:Nat) (hE:ConE g) {L:Lay} {d:Nat} {q:Nm} {fr:Fr} {p:Nat} {s:St} {w:World} {ov:Value} {ob:Option Nat} {u:Value} {m:Mod} {n:Nm} {i:E} {ba k:Nat} {mq:Mod} (h:Going w L d s ov) (hq:L.M q=some m) (hfr:FrAt w ob fr) (hx:EAt w L.Fix (.item p [] n i) [u]) (hfe:FewE i) (hmq:L.M q=some mq) (hdm:L.dim q n=some (ba,k)) (ho : (fns L.M (g + 1)).e d q fr (.item p [] n i) s ≠ .stuck) :
  Calls Tryz.prog 117 #[ptr L.br,ptr (L.pb q),.map ob,u] w (Ran w L d ov [] (fun _ n e=>e = .returned (num n)) ((fns L.M (g + 1)).e d q fr (.item p [] n i) s)):=by
 obtain⟨b,ul,he,hF,hb,hxl⟩:=hx;cases he
 obtain⟨wA,hwA⟩ : ∃ x,w.alloc (.cells #[ptr b] 166)=x:=⟨_,rfl⟩
 have hc0:Chg [] w wA:=by rw [← hwA];exact(Chg.refl _ _).alloc _
 have hb0:=hb.kept hc0 (by simp);have hbx:Blk wA w.heap.size #[ptr b] 166:=by rw [← hwA];exact Blk.new w #[ptr b] 166
 have b0:=hbx.cell 0 _ rfl;have HX:=zh hb0;have HBX:=zh hbx;have HF:=zh hF;have d0:=hb0.cell 0 _ rfl;have d3:=hb0.cell 3 _ rfl;have HC0:=zh hc0;have H:=zh (h.kept hc0);have HFR:=zh (hfr.kept hc0 (by simp));obtain⟨tgt,ht⟩ : ∃ o,o=(fns L.M (g + 1)).e d q fr (.item p [] n i) s:=⟨_,rfl⟩
 have ht2 : tgt=((fns L.M g).e d q fr i s).bind (fun k s=>itemO (s.vs q n) k s):=by
  have hw : where_ q []=q:=rfl;rw [ht]
  show (if (L.M (where_ q [])).isSome then _ else _)=_
  rw [hw,hmq]
  rfl
 rw [← ht] at ho ⊢;obtain⟨wD,hwD⟩ : ∃ x,x=wA.drew:=⟨_,rfl⟩
 have hcD:Chg [] wA wD:=by rw [hwD];exact(Chg.refl [] wA).drew
 have HCD:=zh hcD;have HG0:=zh (H.out.kept hcD);have HCON:=zh (hE HG0.out hq (HFR.out.kept hcD (by simp)) ((hxl.kept hc0 (by simp)).kept hcD (by simp)) hfe (fun hs=>ho (by rw [ht2,hs];rfl)));have q0:=(hbx.kept hcD (by simp)).cell 0 _ rfl;have q4:=(hb0.kept hcD (by simp)).cell 4 _ rfl;have q6:=(hb0.kept hcD (by simp)).cell 6 _ rfl;obtain⟨c0,c1,c2,c3,c4,bm,hpb,hpf,hlk⟩:=part_vars HG0.out hmq;have p5:=hpb.cell 5 _ rfl;have hlk2 : ∀ w',Chg (mutL L ov) wD w'→(Instr.lookup 99 (.map (some bm)) (str n) false).run Tryz.prog w' = .ok (.slice (some ⟨ba,0,none⟩) k k) w':=fun w' hc=>by
  have:=hlk w' _ hc HG0.out.notfix n;rw [hdm] at this;exact this
 have HLK:=zh hlk2;have Z1:=zh (Zone.of (X:=mutL L ov) q0 (H.out.notblk hbx (by decide) (by decide)));have Z2:=zh (Zone.of (X:=mutL L ov) q4 (fun hm=>H.out.notfix b hm hF));have Z3:=zh (Zone.of (X:=mutL L ov) p5 (fun hm=>H.out.notfix _ hm hpf));clear h hb hb0 hc0 hfr hxl hbx ht hq hfe hmq hcD hpb hlk hlk2 hpf
 go_enter Tryz.func117,Tryz.ntmps117
 go_wp2_with fail;refine wp_region_Q (effAnd [100]) (mutL L ov) rfl (by kernel_rfl) ?_;rw [← hwD];clear hwD hwA;have hS:Chg (mutL L ov) wD wD:=Chg.refl _ _
 repeat ((with_reducible show wpQ _ _ _ _ _ _ _ _ _);(first|refine wpQ_nil ?_|refine wpQ_skip rfl ?_|refine wpQ_mv rfl rfl (by kernel_rfl) (fun _ _=>?_)|refine wpQ_ldC rfl rfl rfl (by first|exact Z1.out|exact Z2.out|exact Z3.out) (by assumption) (fun _ _=>?_));go_wp2_with fail)
 refine wpQ_lk rfl rfl rfl rfl HLK.out ?_;go_wp2_with fail
 repeat ((with_reducible show wpQ _ _ _ _ _ _ _ _ _);(first|refine wpQ_nil ?_|refine wpQ_skip rfl ?_|refine wpQ_mv rfl rfl (by kernel_rfl) (fun _ _=>?_)|refine wpQ_ldC rfl rfl rfl (by first|exact Z1.out|exact Z2.out|exact Z3.out) (by assumption) (fun _ _=>?_));go_wp2_with fail)
 refine wpQ_ef rfl rfl (fun K Q hK hQ=>?_);go_wp2_with fail;cases hr : (fns L.M g).e d q fr i s with
 | stuck=>exact absurd (by rw [ht2,hr];rfl) ho
 | stop way s'=>
  rw [hr] at HCON;have HT:=zh (show tgt = .stop way s' by rw [ht2,hr];rfl);clear hr ht2 ho;refine HCON.out.mono ?_;rintro e w1 ⟨ov',hm,hc,⟨older,hol,rfl⟩,d',hg⟩;have HM:=zh hm;have HC:=zh hc;have HG:=zh hg;clear hm hc hg;refine hQ _ _ _ (fun a' ha=>?_);refine⟨ha,?_⟩;rw [HT.out];exact Ran.after (Ran.after (Ran.ended HM.out HC.out HG.out (Chg.refl _ _) ⟨older,hol,rfl⟩) HCD.out) HC0.out
 | ok v s'=>
  rw [hr] at HCON;have ht3 : tgt=itemO (s'.vs q n) v s':=by rw [ht2,hr];rfl
  clear hr ht2 ho;refine HCON.out.mono ?_;rintro e w1 ⟨ov',hm,hc,rfl,hg⟩;have HM:=zh hm;have HC:=zh hc;have HG:=zh hg;obtain⟨l,hvs,hll,hcells⟩:=dyn_item hg hdm;have hk1000:=(hg.lay.arr hdm).2.2;have HI:=zh (item_any ba k k hk1000 v w1);rw [hvs] at ht3;have HCL:=zh hcells;clear hm hc hg hvs hcells hS;by_cases hin : 0≤v∧v < (k:Int)
  ·have HT:=zh (show tgt = .ok (l.getD v.toNat 0) s' by rw [ht3,itemO,if_pos (by rw [hll];exact hin)])
   simp only [if_pos hin] at HI;have hcell:=HCL.out v.toNat (by omega);clear ht3 hin hll;go_wp2_with fail;refine⟨HC.out,?_⟩;have hS:=HC.out
   repeat ((with_reducible show wpQ _ _ _ _ _ _ _ _ _);(first|refine wpQ_nil ?_|refine wpQ_skip rfl ?_|refine wpQ_mv rfl rfl (by kernel_rfl) (fun _ _=>?_)|refine wpQ_ldC rfl rfl rfl (by first|exact Z1.out|exact Z2.out|exact Z3.out) (by assumption) (fun _ _=>?_));go_wp2_with fail)
   refine wpQ_ef rfl rfl (fun K Q hK hQ=>?_);go_wp2_with fail;refine HI.out.mono ?_;rintro _ _ ⟨rfl,hw⟩;have hw:=hw.symm;subst hw;go_wp2_with fail;refine⟨HC.out,?_⟩
   repeat ((with_reducible show wpQ _ _ _ _ _ _ _ _ _);(first|refine wpQ_nil ?_|refine wpQ_skip rfl ?_|refine wpQ_mv rfl rfl (by kernel_rfl) (fun _ _=>?_)|refine wpQ_ldC rfl rfl rfl (by first|exact Z1.out|exact Z2.out|exact Z3.out) (by assumption) (fun _ _=>?_));go_wp2_with fail)
   refine wpQ_ef rfl rfl (fun K Q hK hQ=>?_);go_wp2_with fail;refine⟨HC.out,?_⟩
   repeat ((with_reducible show wpQ _ _ _ _ _ _ _ _ _);(first|refine wpQ_nil ?_|refine wpQ_skip rfl ?_|refine wpQ_mv rfl rfl (by kernel_rfl) (fun _ _=>?_)|refine wpQ_ldC rfl rfl rfl (by first|exact Z1.out|exact Z2.out|exact Z3.out) (by assumption) (fun _ _=>?_));go_wp2_with fail)
   clear hS Z1 Z2 Z3;go_wp2_with fail;go_ret
   rw [HT.out];exact Ran.after (Ran.after (Ran.done HM.out HC.out HG.out (Chg.refl _ _) rfl) HCD.out) HC0.out
  ·have HT:=zh (show tgt = .stop 3 s' by rw [ht3,itemO,if_neg (by rw [hll];exact hin)])
   simp only [if_neg hin] at HI;clear ht3 hin hll;go_wp2_with fail;refine⟨HC.out,?_⟩;have hS:=HC.out
   repeat ((with_reducible show wpQ _ _ _ _ _ _ _ _ _);(first|refine wpQ_nil ?_|refine wpQ_skip rfl ?_|refine wpQ_mv rfl rfl (by kernel_rfl) (fun _ _=>?_)|refine wpQ_ldC rfl rfl rfl (by first|exact Z1.out|exact Z2.out|exact Z3.out) (by assumption) (fun _ _=>?_));go_wp2_with fail)
   refine wpQ_ef rfl rfl (fun K Q hK hQ=>?_);go_wp2_with fail;refine HI.out.mono ?_;rintro _ _ ⟨⟨older,hol,rfl⟩,hw⟩;have hw:=hw.symm;subst hw;refine hQ _ _ _ (fun a' ha=>?_);refine⟨ha,?_⟩;rw [HT.out];exact Ran.after (Ran.after (Ran.ended HM.out HC.out HG.out (Chg.refl _ _) ⟨older,hol,rfl⟩) HCD.out) HC0.out
theorem e_item_own_none (g:Nat) (hE:ConE g) {L:Lay} {d:Nat} {q:Nm} {fr:Fr} {p:Nat} {s:St} {w:World} {ov:Value} {ob:Option Nat} {u:Value} {m:Mod} {n:Nm} {i:E} {mq:Mod} (h:Going w L d s ov) (hq:L.M q=some m) (hfr:FrAt w ob fr) (hx:EAt w L.Fix (.item p [] n i) [u]) (hfe:FewE i) (hmq:L.M q=some mq) (hdm:L.dim q n=none) (ho : (fns L.M (g + 1)).e d q fr (.item p [] n i) s ≠ .stuck) :
  Calls Tryz.prog 117 #[ptr L.br,ptr (L.pb q),.map ob,u] w (Ran w L d ov [] (fun _ n e=>e = .returned (num n)) ((fns L.M (g + 1)).e d q fr (.item p [] n i) s)):=by
 obtain⟨b,ul,he,hF,hb,hxl⟩:=hx;cases he
 obtain⟨wA,hwA⟩ : ∃ x,w.alloc (.cells #[ptr b] 166)=x:=⟨_,rfl⟩
 have hc0:Chg [] w wA:=by rw [← hwA];exact(Chg.refl _ _).alloc _
 have hb0:=hb.kept hc0 (by simp);have hbx:Blk wA w.heap.size #[ptr b] 166:=by rw [← hwA];exact Blk.new w #[ptr b] 166
 have b0:=hbx.cell 0 _ rfl;have HX:=zh hb0;have HBX:=zh hbx;have HF:=zh hF;have d0:=hb0.cell 0 _ rfl;have d3:=hb0.cell 3 _ rfl;have HC0:=zh hc0;have H:=zh (h.kept hc0);have HFR:=zh (hfr.kept hc0 (by simp));obtain⟨tgt,ht⟩ : ∃ o,o=(fns L.M (g + 1)).e d q fr (.item p [] n i) s:=⟨_,rfl⟩
 have ht2 : tgt=((fns L.M g).e d q fr i s).bind (fun k s=>itemO (s.vs q n) k s):=by
  have hw : where_ q []=q:=rfl;rw [ht]
  show (if (L.M (where_ q [])).isSome then _ else _)=_
  rw [hw,hmq]
  rfl
 rw [← ht] at ho ⊢;obtain⟨wD,hwD⟩ : ∃ x,x=wA.drew:=⟨_,rfl⟩
 have hcD:Chg [] wA wD:=by rw [hwD];exact(Chg.refl [] wA).drew
 have HCD:=zh hcD;have HG0:=zh (H.out.kept hcD);have HCON:=zh (hE HG0.out hq (HFR.out.kept hcD (by simp)) ((hxl.kept hc0 (by simp)).kept hcD (by simp)) hfe (fun hs=>ho (by rw [ht2,hs];rfl)));have q0:=(hbx.kept hcD (by simp)).cell 0 _ rfl;have q4:=(hb0.kept hcD (by simp)).cell 4 _ rfl;have q6:=(hb0.kept hcD (by simp)).cell 6 _ rfl;obtain⟨c0,c1,c2,c3,c4,bm,hpb,hpf,hlk⟩:=part_vars HG0.out hmq;have p5:=hpb.cell 5 _ rfl;have hlk2 : ∀ w',Chg (mutL L ov) wD w'→(Instr.lookup 99 (.map (some bm)) (str n) false).run Tryz.prog w' = .ok nils w':=fun w' hc=>by
  have:=hlk w' _ hc HG0.out.notfix n;rw [hdm] at this;exact this
 have HLK:=zh hlk2;have Z1:=zh (Zone.of (X:=mutL L ov) q0 (H.out.notblk hbx (by decide) (by decide)));have Z2:=zh (Zone.of (X:=mutL L ov) q4 (fun hm=>H.out.notfix b hm hF));have Z3:=zh (Zone.of (X:=mutL L ov) p5 (fun hm=>H.out.notfix _ hm hpf));clear h hb hb0 hc0 hfr hxl hbx ht hq hfe hmq hcD hpb hlk hlk2 hpf
 go_enter Tryz.func117,Tryz.ntmps117
 go_wp2_with fail;refine wp_region_Q (effAnd [100]) (mutL L ov) rfl (by kernel_rfl) ?_;rw [← hwD];clear hwD hwA;have hS:Chg (mutL L ov) wD wD:=Chg.refl _ _
 repeat ((with_reducible show wpQ _ _ _ _ _ _ _ _ _);(first|refine wpQ_nil ?_|refine wpQ_skip rfl ?_|refine wpQ_mv rfl rfl (by kernel_rfl) (fun _ _=>?_)|refine wpQ_ldC rfl rfl rfl (by first|exact Z1.out|exact Z2.out|exact Z3.out) (by assumption) (fun _ _=>?_));go_wp2_with fail)
 refine wpQ_lk rfl rfl rfl rfl HLK.out ?_;go_wp2_with fail
 repeat ((with_reducible show wpQ _ _ _ _ _ _ _ _ _);(first|refine wpQ_nil ?_|refine wpQ_skip rfl ?_|refine wpQ_mv rfl rfl (by kernel_rfl) (fun _ _=>?_)|refine wpQ_ldC rfl rfl rfl (by first|exact Z1.out|exact Z2.out|exact Z3.out) (by assumption) (fun _ _=>?_));go_wp2_with fail)
 refine wpQ_ef rfl rfl (fun K Q hK hQ=>?_);go_wp2_with fail;cases hr : (fns L.M g).e d q fr i s with
 | stuck=>exact absurd (by rw [ht2,hr];rfl) ho
 | stop way s'=>
  rw [hr] at HCON;have HT:=zh (show tgt = .stop way s' by rw [ht2,hr];rfl);clear hr ht2 ho;refine HCON.out.mono ?_;rintro e w1 ⟨ov',hm,hc,⟨older,hol,rfl⟩,d',hg⟩;have HM:=zh hm;have HC:=zh hc;have HG:=zh hg;clear hm hc hg;refine hQ _ _ _ (fun a' ha=>?_);refine⟨ha,?_⟩;rw [HT.out];exact Ran.after (Ran.after (Ran.ended HM.out HC.out HG.out (Chg.refl _ _) ⟨older,hol,rfl⟩) HCD.out) HC0.out
 | ok v s'=>
  rw [hr] at HCON;have ht3 : tgt=itemO (s'.vs q n) v s':=by rw [ht2,hr];rfl
  clear hr ht2 ho;refine HCON.out.mono ?_;rintro e w1 ⟨ov',hm,hc,rfl,hg⟩;have HM:=zh hm;have HC:=zh hc;have HG:=zh hg;have hdn:=hg.dyn q n;rw [hdm] at hdn;simp only at hdn;rw [hdn] at ht3;have HT:=zh (show tgt = .stop 3 s' from ht3);have HI:=zh (item_nil v w1);clear hm hc hg hdn ht3 hS;go_wp2_with fail;refine⟨HC.out,?_⟩;have hS:=HC.out
  repeat ((with_reducible show wpQ _ _ _ _ _ _ _ _ _);(first|refine wpQ_nil ?_|refine wpQ_skip rfl ?_|refine wpQ_mv rfl rfl (by kernel_rfl) (fun _ _=>?_)|refine wpQ_ldC rfl rfl rfl (by first|exact Z1.out|exact Z2.out|exact Z3.out) (by assumption) (fun _ _=>?_));go_wp2_with fail)
  refine wpQ_ef rfl rfl (fun K Q hK hQ=>?_);go_wp2_with fail;refine HI.out.mono ?_;rintro _ _ ⟨⟨older,hol,rfl⟩,hw⟩;have hw:=hw.symm;subst hw;refine hQ _ _ _ (fun a' ha=>?_);refine⟨ha,?_⟩;rw [HT.out];exact Ran.after (Ran.after (Ran.ended HM.out HC.out HG.out (Chg.refl _ _) ⟨older,hol,rfl⟩) HCD.out) HC0.out
theorem e_item_other (g:Nat) (hE:ConE g) {L:Lay} {d:Nat} {q:Nm} {fr:Fr} {p:Nat} {s:St} {w:World} {ov:Value} {ob:Option Nat} {u:Value} {m:Mod} {mm:Nm} {n:Nm} {i:E} {ba k:Nat} {mq:Mod} (h:Going w L d s ov) (hq:L.M q=some m) (hfr:FrAt w ob fr) (hx:EAt w L.Fix (.item p mm n i) [u]) (hfe:FewE i) (hmm : mm≠[]) (hmq:L.M mm=some mq) (hdm:L.dim mm n=some (ba,k)) (ho : (fns L.M (g + 1)).e d q fr (.item p mm n i) s ≠ .stuck) :
  Calls Tryz.prog 117 #[ptr L.br,ptr (L.pb q),.map ob,u] w (Ran w L d ov [] (fun _ n e=>e = .returned (num n)) ((fns L.M (g + 1)).e d q fr (.item p mm n i) s)):=by
 obtain⟨b,ul,he,hF,hb,hxl⟩:=hx;cases he
 obtain⟨wA,hwA⟩ : ∃ x,w.alloc (.cells #[ptr b] 166)=x:=⟨_,rfl⟩
 have hc0:Chg [] w wA:=by rw [← hwA];exact(Chg.refl _ _).alloc _
 have hb0:=hb.kept hc0 (by simp);have hbx:Blk wA w.heap.size #[ptr b] 166:=by rw [← hwA];exact Blk.new w #[ptr b] 166
 have b0:=hbx.cell 0 _ rfl;have HX:=zh hb0;have HBX:=zh hbx;have HF:=zh hF;have d0:=hb0.cell 0 _ rfl;have d3:=hb0.cell 3 _ rfl;have HC0:=zh hc0;have H:=zh (h.kept hc0);have HFR:=zh (hfr.kept hc0 (by simp));obtain⟨tgt,ht⟩ : ∃ o,o=(fns L.M (g + 1)).e d q fr (.item p mm n i) s:=⟨_,rfl⟩
 have ht2 : tgt=((fns L.M g).e d q fr i s).bind (fun k s=>itemO (s.vs mm n) k s):=by
  have hw : where_ q mm=mm:=by rw [where_,if_neg hmm]
  rw [ht]
  show (if (L.M (where_ q mm)).isSome then _ else _)=_
  rw [hw,hmq]
  rfl
 rw [← ht] at ho ⊢;obtain⟨wD,hwD⟩ : ∃ x,x=wA.drew.drew:=⟨_,rfl⟩
 have hcD:Chg [] wA wD:=by rw [hwD];exact(Chg.refl [] wA).drew.drew
 have HCD:=zh hcD;have HG0:=zh (H.out.kept hcD);have HCON:=zh (hE HG0.out hq (HFR.out.kept hcD (by simp)) ((hxl.kept hc0 (by simp)).kept hcD (by simp)) hfe (fun hs=>ho (by rw [ht2,hs];rfl)));have q0:=(hbx.kept hcD (by simp)).cell 0 _ rfl;have q4:=(hb0.kept hcD (by simp)).cell 4 _ rfl;have q6:=(hb0.kept hcD (by simp)).cell 6 _ rfl;obtain⟨c0,c1,c2,c3,c4,bm,hpb,hpf,hlk⟩:=part_vars HG0.out hmq;have p5:=hpb.cell 5 _ rfl;have hlk2 : ∀ w',Chg (mutL L ov) wD w'→(Instr.lookup 99 (.map (some bm)) (str n) false).run Tryz.prog w' = .ok (.slice (some ⟨ba,0,none⟩) k k) w':=fun w' hc=>by
  have:=hlk w' _ hc HG0.out.notfix n;rw [hdm] at this;exact this
 have HLK:=zh hlk2;have Z1:=zh (Zone.of (X:=mutL L ov) q0 (H.out.notblk hbx (by decide) (by decide)));have Z2:=zh (Zone.of (X:=mutL L ov) q4 (fun hm=>H.out.notfix b hm hF));have Z3:=zh (Zone.of (X:=mutL L ov) p5 (fun hm=>H.out.notfix _ hm hpf));have r0:=H.out.run.cell 0 _ rfl;obtain⟨bp,wc1,hwb,hwf,hlw⟩:=world_parts H.out;have w0:=hwb.cell 0 _ rfl;have hl0:=hlw wA.drew [] (Chg.refl _ _).drew (by simp) mm;rw [hmq] at hl0;simp only at hl0;have hm1 : (mm == [])=false:=by simpa using hmm
 have hm2 : (mm != [])=true:=by simpa using hmm
 clear hlw hwb hwf hmm;clear h hb hb0 hc0 hfr hxl hbx ht hq hfe hmq hcD hpb hlk hlk2 hpf
 go_enter Tryz.func117,Tryz.ntmps117
 go_wp2_with fail
 go_region
 all_goals (try go_wp2_with fail)
 refine wp_region_Q (effAnd [100]) (mutL L ov) rfl (by kernel_rfl) ?_;rw [← hwD];clear hwD hwA;have hS:Chg (mutL L ov) wD wD:=Chg.refl _ _
 repeat ((with_reducible show wpQ _ _ _ _ _ _ _ _ _);(first|refine wpQ_nil ?_|refine wpQ_skip rfl ?_|refine wpQ_mv rfl rfl (by kernel_rfl) (fun _ _=>?_)|refine wpQ_ldC rfl rfl rfl (by first|exact Z1.out|exact Z2.out|exact Z3.out) (by assumption) (fun _ _=>?_));go_wp2_with fail)
 refine wpQ_lk rfl rfl rfl rfl HLK.out ?_;go_wp2_with fail
 repeat ((with_reducible show wpQ _ _ _ _ _ _ _ _ _);(first|refine wpQ_nil ?_|refine wpQ_skip rfl ?_|refine wpQ_mv rfl rfl (by kernel_rfl) (fun _ _=>?_)|refine wpQ_ldC rfl rfl rfl (by first|exact Z1.out|exact Z2.out|exact Z3.out) (by assumption) (fun _ _=>?_));go_wp2_with fail)
 refine wpQ_ef rfl rfl (fun K Q hK hQ=>?_);go_wp2_with fail;cases hr : (fns L.M g).e d q fr i s with
 | stuck=>exact absurd (by rw [ht2,hr];rfl) ho
 | stop way s'=>
  rw [hr] at HCON;have HT:=zh (show tgt = .stop way s' by rw [ht2,hr];rfl);clear hr ht2 ho;refine HCON.out.mono ?_;rintro e w1 ⟨ov',hm,hc,⟨older,hol,rfl⟩,d',hg⟩;have HM:=zh hm;have HC:=zh hc;have HG:=zh hg;clear hm hc hg;refine hQ _ _ _ (fun a' ha=>?_);refine⟨ha,?_⟩;rw [HT.out];exact Ran.after (Ran.after (Ran.ended HM.out HC.out HG.out (Chg.refl _ _) ⟨older,hol,rfl⟩) HCD.out) HC0.out
 | ok v s'=>
  rw [hr] at HCON;have ht3 : tgt=itemO (s'.vs mm n) v s':=by rw [ht2,hr];rfl
  clear hr ht2 ho;refine HCON.out.mono ?_;rintro e w1 ⟨ov',hm,hc,rfl,hg⟩;have HM:=zh hm;have HC:=zh hc;have HG:=zh hg;obtain⟨l,hvs,hll,hcells⟩:=dyn_item hg hdm;have hk1000:=(hg.lay.arr hdm).2.2;have HI:=zh (item_any ba k k hk1000 v w1);rw [hvs] at ht3;have HCL:=zh hcells;clear hm hc hg hvs hcells hS;by_cases hin : 0≤v∧v < (k:Int)
  ·have HT:=zh (show tgt = .ok (l.getD v.toNat 0) s' by rw [ht3,itemO,if_pos (by rw [hll];exact hin)])
   simp only [if_pos hin] at HI;have hcell:=HCL.out v.toNat (by omega);clear ht3 hin hll;go_wp2_with fail;refine⟨HC.out,?_⟩;have hS:=HC.out
   repeat ((with_reducible show wpQ _ _ _ _ _ _ _ _ _);(first|refine wpQ_nil ?_|refine wpQ_skip rfl ?_|refine wpQ_mv rfl rfl (by kernel_rfl) (fun _ _=>?_)|refine wpQ_ldC rfl rfl rfl (by first|exact Z1.out|exact Z2.out|exact Z3.out) (by assumption) (fun _ _=>?_));go_wp2_with fail)
   refine wpQ_ef rfl rfl (fun K Q hK hQ=>?_);go_wp2_with fail;refine HI.out.mono ?_;rintro _ _ ⟨rfl,hw⟩;have hw:=hw.symm;subst hw;go_wp2_with fail;refine⟨HC.out,?_⟩
   repeat ((with_reducible show wpQ _ _ _ _ _ _ _ _ _);(first|refine wpQ_nil ?_|refine wpQ_skip rfl ?_|refine wpQ_mv rfl rfl (by kernel_rfl) (fun _ _=>?_)|refine wpQ_ldC rfl rfl rfl (by first|exact Z1.out|exact Z2.out|exact Z3.out) (by assumption) (fun _ _=>?_));go_wp2_with fail)
   refine wpQ_ef rfl rfl (fun K Q hK hQ=>?_);go_wp2_with fail;refine⟨HC.out,?_⟩
   repeat ((with_reducible show wpQ _ _ _ _ _ _ _ _ _);(first|refine wpQ_nil ?_|refine wpQ_skip rfl ?_|refine wpQ_mv rfl rfl (by kernel_rfl) (fun _ _=>?_)|refine wpQ_ldC rfl rfl rfl (by first|exact Z1.out|exact Z2.out|exact Z3.out) (by assumption) (fun _ _=>?_));go_wp2_with fail)
   clear hS Z1 Z2 Z3;go_wp2_with fail;go_ret
   rw [HT.out];exact Ran.after (Ran.after (Ran.done HM.out HC.out HG.out (Chg.refl _ _) rfl) HCD.out) HC0.out
  ·have HT:=zh (show tgt = .stop 3 s' by rw [ht3,itemO,if_neg (by rw [hll];exact hin)])
   simp only [if_neg hin] at HI;clear ht3 hin hll;go_wp2_with fail;refine⟨HC.out,?_⟩;have hS:=HC.out
   repeat ((with_reducible show wpQ _ _ _ _ _ _ _ _ _);(first|refine wpQ_nil ?_|refine wpQ_skip rfl ?_|refine wpQ_mv rfl rfl (by kernel_rfl) (fun _ _=>?_)|refine wpQ_ldC rfl rfl rfl (by first|exact Z1.out|exact Z2.out|exact Z3.out) (by assumption) (fun _ _=>?_));go_wp2_with fail)
   refine wpQ_ef rfl rfl (fun K Q hK hQ=>?_);go_wp2_with fail;refine HI.out.mono ?_;rintro _ _ ⟨⟨older,hol,rfl⟩,hw⟩;have hw:=hw.symm;subst hw;refine hQ _ _ _ (fun a' ha=>?_);refine⟨ha,?_⟩;rw [HT.out];exact Ran.after (Ran.after (Ran.ended HM.out HC.out HG.out (Chg.refl _ _) ⟨older,hol,rfl⟩) HCD.out) HC0.out
theorem e_item_other_none (g:Nat) (hE:ConE g) {L:Lay} {d:Nat} {q:Nm} {fr:Fr} {p:Nat} {s:St} {w:World} {ov:Value} {ob:Option Nat} {u:Value} {m:Mod} {mm:Nm} {n:Nm} {i:E} {mq:Mod} (h:Going w L d s ov) (hq:L.M q=some m) (hfr:FrAt w ob fr) (hx:EAt w L.Fix (.item p mm n i) [u]) (hfe:FewE i) (hmm : mm≠[]) (hmq:L.M mm=some mq) (hdm:L.dim mm n=none) (ho : (fns L.M (g + 1)).e d q fr (.item p mm n i) s ≠ .stuck) :
  Calls Tryz.prog 117 #[ptr L.br,ptr (L.pb q),.map ob,u] w (Ran w L d ov [] (fun _ n e=>e = .returned (num n)) ((fns L.M (g + 1)).e d q fr (.item p mm n i) s)):=by
 obtain⟨b,ul,he,hF,hb,hxl⟩:=hx;cases he
 obtain⟨wA,hwA⟩ : ∃ x,w.alloc (.cells #[ptr b] 166)=x:=⟨_,rfl⟩
 have hc0:Chg [] w wA:=by rw [← hwA];exact(Chg.refl _ _).alloc _
 have hb0:=hb.kept hc0 (by simp);have hbx:Blk wA w.heap.size #[ptr b] 166:=by rw [← hwA];exact Blk.new w #[ptr b] 166
 have b0:=hbx.cell 0 _ rfl;have HX:=zh hb0;have HBX:=zh hbx;have HF:=zh hF;have d0:=hb0.cell 0 _ rfl;have d3:=hb0.cell 3 _ rfl;have HC0:=zh hc0;have H:=zh (h.kept hc0);have HFR:=zh (hfr.kept hc0 (by simp));obtain⟨tgt,ht⟩ : ∃ o,o=(fns L.M (g + 1)).e d q fr (.item p mm n i) s:=⟨_,rfl⟩
 have ht2 : tgt=((fns L.M g).e d q fr i s).bind (fun k s=>itemO (s.vs mm n) k s):=by
  have hw : where_ q mm=mm:=by rw [where_,if_neg hmm]
  rw [ht]
  show (if (L.M (where_ q mm)).isSome then _ else _)=_
  rw [hw,hmq]
  rfl
 rw [← ht] at ho ⊢;obtain⟨wD,hwD⟩ : ∃ x,x=wA.drew.drew:=⟨_,rfl⟩
 have hcD:Chg [] wA wD:=by rw [hwD];exact(Chg.refl [] wA).drew.drew
 have HCD:=zh hcD;have HG0:=zh (H.out.kept hcD);have HCON:=zh (hE HG0.out hq (HFR.out.kept hcD (by simp)) ((hxl.kept hc0 (by simp)).kept hcD (by simp)) hfe (fun hs=>ho (by rw [ht2,hs];rfl)));have q0:=(hbx.kept hcD (by simp)).cell 0 _ rfl;have q4:=(hb0.kept hcD (by simp)).cell 4 _ rfl;have q6:=(hb0.kept hcD (by simp)).cell 6 _ rfl;obtain⟨c0,c1,c2,c3,c4,bm,hpb,hpf,hlk⟩:=part_vars HG0.out hmq;have p5:=hpb.cell 5 _ rfl;have hlk2 : ∀ w',Chg (mutL L ov) wD w'→(Instr.lookup 99 (.map (some bm)) (str n) false).run Tryz.prog w' = .ok nils w':=fun w' hc=>by
  have:=hlk w' _ hc HG0.out.notfix n;rw [hdm] at this;exact this
 have HLK:=zh hlk2;have Z1:=zh (Zone.of (X:=mutL L ov) q0 (H.out.notblk hbx (by decide) (by decide)));have Z2:=zh (Zone.of (X:=mutL L ov) q4 (fun hm=>H.out.notfix b hm hF));have Z3:=zh (Zone.of (X:=mutL L ov) p5 (fun hm=>H.out.notfix _ hm hpf));have r0:=H.out.run.cell 0 _ rfl;obtain⟨bp,wc1,hwb,hwf,hlw⟩:=world_parts H.out;have w0:=hwb.cell 0 _ rfl;have hl0:=hlw wA.drew [] (Chg.refl _ _).drew (by simp) mm;rw [hmq] at hl0;simp only at hl0;have hm1 : (mm == [])=false:=by simpa using hmm
 have hm2 : (mm != [])=true:=by simpa using hmm
 clear hlw hwb hwf hmm;clear h hb hb0 hc0 hfr hxl hbx ht hq hfe hmq hcD hpb hlk hlk2 hpf
 go_enter Tryz.func117,Tryz.ntmps117
 go_wp2_with fail
 go_region
 all_goals (try go_wp2_with fail)
 refine wp_region_Q (effAnd [100]) (mutL L ov) rfl (by kernel_rfl) ?_;rw [← hwD];clear hwD hwA;have hS:Chg (mutL L ov) wD wD:=Chg.refl _ _
 repeat ((with_reducible show wpQ _ _ _ _ _ _ _ _ _);(first|refine wpQ_nil ?_|refine wpQ_skip rfl ?_|refine wpQ_mv rfl rfl (by kernel_rfl) (fun _ _=>?_)|refine wpQ_ldC rfl rfl rfl (by first|exact Z1.out|exact Z2.out|exact Z3.out) (by assumption) (fun _ _=>?_));go_wp2_with fail)
 refine wpQ_lk rfl rfl rfl rfl HLK.out ?_;go_wp2_with fail
 repeat ((with_reducible show wpQ _ _ _ _ _ _ _ _ _);(first|refine wpQ_nil ?_|refine wpQ_skip rfl ?_|refine wpQ_mv rfl rfl (by kernel_rfl) (fun _ _=>?_)|refine wpQ_ldC rfl rfl rfl (by first|exact Z1.out|exact Z2.out|exact Z3.out) (by assumption) (fun _ _=>?_));go_wp2_with fail)
 refine wpQ_ef rfl rfl (fun K Q hK hQ=>?_);go_wp2_with fail;cases hr : (fns L.M g).e d q fr i s with
 | stuck=>exact absurd (by rw [ht2,hr];rfl) ho
 | stop way s'=>
  rw [hr] at HCON;have HT:=zh (show tgt = .stop way s' by rw [ht2,hr];rfl);clear hr ht2 ho;refine HCON.out.mono ?_;rintro e w1 ⟨ov',hm,hc,⟨older,hol,rfl⟩,d',hg⟩;have HM:=zh hm;have HC:=zh hc;have HG:=zh hg;clear hm hc hg;refine hQ _ _ _ (fun a' ha=>?_);refine⟨ha,?_⟩;rw [HT.out];exact Ran.after (Ran.after (Ran.ended HM.out HC.out HG.out (Chg.refl _ _) ⟨older,hol,rfl⟩) HCD.out) HC0.out
 | ok v s'=>
  rw [hr] at HCON;have ht3 : tgt=itemO (s'.vs mm n) v s':=by rw [ht2,hr];rfl
  clear hr ht2 ho;refine HCON.out.mono ?_;rintro e w1 ⟨ov',hm,hc,rfl,hg⟩;have HM:=zh hm;have HC:=zh hc;have HG:=zh hg;have hdn:=hg.dyn mm n;rw [hdm] at hdn;simp only at hdn;rw [hdn] at ht3;have HT:=zh (show tgt = .stop 3 s' from ht3);have HI:=zh (item_nil v w1);clear hm hc hg hdn ht3 hS;go_wp2_with fail;refine⟨HC.out,?_⟩;have hS:=HC.out
  repeat ((with_reducible show wpQ _ _ _ _ _ _ _ _ _);(first|refine wpQ_nil ?_|refine wpQ_skip rfl ?_|refine wpQ_mv rfl rfl (by kernel_rfl) (fun _ _=>?_)|refine wpQ_ldC rfl rfl rfl (by first|exact Z1.out|exact Z2.out|exact Z3.out) (by assumption) (fun _ _=>?_));go_wp2_with fail)
  refine wpQ_ef rfl rfl (fun K Q hK hQ=>?_);go_wp2_with fail;refine HI.out.mono ?_;rintro _ _ ⟨⟨older,hol,rfl⟩,hw⟩;have hw:=hw.symm;subst hw;refine hQ _ _ _ (fun a' ha=>?_);refine⟨ha,?_⟩;rw [HT.out];exact Ran.after (Ran.after (Ran.ended HM.out HC.out HG.out (Chg.refl _ _) ⟨older,hol,rfl⟩) HCD.out) HC0.out
end Go.Proofs.YtechofppmnnomaaGreatDoor
namespace Go.Mq.Run
open Go Go.RowKit Go.Mq Go.Mq.Tree
theorem Going.aside {w w':World} {L:Lay} {d:Nat} {s:St} {ov:Value} {Z:List Nat} (h:Going w L d s ov) (hc:Chg Z w w') (hZ : ∀ x∈Z,x∉mutL L ov∧¬ L.Fix x):Going w' L d s ov:=
 ⟨h.lay,h.stat.kept hc (fun x hx=>(hZ x hx).2),h.run.kept hc (fun hm=>(hZ _ hm).1 List.mem_cons_self),h.dyn.kept hc (fun q n b k hd hm=>(hZ b hm).1 (List.mem_cons_of_mem _ (List.mem_append_right _ (h.lay.arr hd).1))),fun hb=>by
  obtain⟨cs,f,hh⟩:=h.arrc hb;exact⟨cs,f,by rw [hc.block _ (Array.getElem?_eq_some_iff.1 hh).1 (fun hm=>(hZ _ hm).1 (List.mem_cons_of_mem _ (List.mem_append_right _ hb)))];exact hh⟩,owns_kept h.out hc (fun g hg hm=>(hZ g hm).1 (List.mem_cons_of_mem _ (List.mem_append_left _ hg))),h.from_,h.few,h.deep,h.most⟩
end Go.Mq.Run
namespace Go.Proofs.YtechofppmnnomaaGreatDoor
open Go Go.RowKit Go.Mq Go.Mq.Tree Go.Mq.Sym Go.Mq.Check Go.Mq.Run
set_option maxRecDepth 100000
set_option maxHeartbeats 2000000
theorem risp_any (x:Proc) (n:List UInt8) (pos:Int) (a1:Option Addr) (k1:Nat) (a2:Option Addr) (n2 k2:Nat) (a3:Option Addr) (n3 k3:Nat) (be b0:Nat) (c0 c1 c2 c3 c5 c6 c7 c8:Value) (w:World) (hx : w.cell? ⟨b0,0,none⟩=some (ptr be)) (hb:Blk w be #[c0,c1,c2,c3,str n,c5,c6,c7,c8] 192) :
  Calls Tryz.prog 140 #[.agg #[str x.name,.int .i64 pos,.bool x.seen,.slice a1 x.params.length k1,.slice a2 n2 k2,.slice a3 n3 k3],ptr b0] w (fun e w'=>e = .returned (.bool (x.name == n))∧Chg [] w w'):=by
 have hx':=((Chg.refl [] w).alloc (.cells #[str x.name,.int .i64 pos,.bool x.seen,.slice a1 x.params.length k1,.slice a2 n2 k2,.slice a3 n3 k3] 72)).cellSome hx (by simp);have d4:=((Chg.refl [] w).alloc (.cells #[str x.name,.int .i64 pos,.bool x.seen,.slice a1 x.params.length k1,.slice a2 n2 k2,.slice a3 n3 k3] 72)).cellSome (hb.cell 4 _ rfl) (by simp);have n0 : b0≠w.heap.size:=by have:=lt_of_cell hx;simp at this;omega
 have n1 : be≠w.heap.size:=by have:=hb.lt;omega
 have z:=Blk.new w #[str x.name,.int .i64 pos,.bool x.seen,.slice a1 x.params.length k1,.slice a2 n2 k2,.slice a3 n3 k3] 72;have z0:=z.cell 0 _ rfl;clear hx hb z
 go_enter Tryz.func140,Tryz.ntmps140
 go_wp2_with fail
 go_region
 all_goals (try go_wp2_with fail)
 all_goals go_ret
 all_goals exact⟨rfl,((Chg.refl _ _).alloc _).drew⟩
theorem rindexp_any (l:List Proc) (hl : l.length≤1000) (n:List UInt8) (be b0:Nat) (c0 c1 c2 c3 c5 c6 c7 c8:Value) (F:Nat→Prop) (v:Value) (w:World) (h:ProcsL w F l v) (hx : w.cell? ⟨b0,0,none⟩=some (ptr be)) (hb:Blk w be #[c0,c1,c2,c3,str n,c5,c6,c7,c8] 192) :
  Calls Tryz.prog 57 #[v,.func (.func 140) #[] #[ptr b0]] w (fun e w'=>At1 l (fun g=>g.name == n) e∧Chg [] w w'):=by
 have HPR:=zh h;obtain⟨a,c,cs,rfl,hac,hrow,hps⟩:=h;have HX:=zh hx;have HB:=zh hb;clear hrow hx hb hps
 go_enter Tryz.func57,Tryz.ntmps57
 go_wp2_with fail
 go_loopw [5,8] (fun _ i wr=>∃ k:Nat,i = .int .i64 k∧k≤l.length∧Chg [] w wr ∧ ∀ (i:Nat) (x:Proc),i < k→l[i]?=some x→(x.name == n)=false) (fun _ i _=>l.length - (intOf i).toNat)
 case atStart=>exact⟨0,rfl,Nat.zero_le _,Chg.refl _ _,fun i x hi=>by omega⟩
 case round=>
  obtain⟨k,rfl,hk,hc,hno⟩:=hrel;have HNO:=zh hno;have HC:=zh hc;clear hno hc;by_cases hlt : k < l.length
  ·obtain⟨s,hs⟩ : ∃ s,l[k]?=some s:=⟨l[k],List.getElem?_eq_getElem hlt⟩
   obtain⟨bb,off,cc,pos,a1,k1,a2,n2,k2,a3,n3,k3,hv,_,d0,d1,d2,d3,d4,d5⟩:=proc_cells (HPR.out.kept HC.out (by simp)) hs;simp only [Value.slice.injEq,true_and] at hv;obtain⟨rfl,rfl⟩:=hv;have HS:=zh hs;have HI:=zh (risp_any s n pos a1 k1 a2 n2 k2 a3 n3 k3 be b0 c0 c1 c2 c3 c5 c6 c7 c8 wr (HC.out.cellSome HX.out (by simp)) (HB.out.kept HC.out (by simp)));clear hs;cases hq : (s.name == n) with
   | true=>
    rw [hq] at HI;have HR:=zh (show l.find? (fun g=>g.name == n)=some s from find_at HS.out hq HNO.out);clear hq;go_wp2_with fail;refine HI.out.mono ?_;rintro _ w2 ⟨rfl,hq⟩;have HQ:=zh (HC.out.then hq);clear hq;go_wp2_with fail;go_ret
    refine⟨?_,HQ.out⟩;rw [At1,HR.out];exact⟨k,HS.out,rfl⟩
   | false=>
    rw [hq] at HI;have HN:=zh hq;clear hq;go_wp2_with fail;refine HI.out.mono ?_;rintro _ w2 ⟨rfl,hq⟩;have HQ:=zh (HC.out.then hq);clear hq;go_wp2_with fail;refine⟨⟨k + 1,by go_num,by omega,HQ.out,fun i x hi hx=>?_⟩,by simp [intOf];omega⟩;by_cases he : i < k
    ·exact HNO.out i x he hx
    ·have : i=k:=by omega
     subst this;rw [HS.out] at hx;cases hx
     exact HN.out
  ·have HR:=zh (show l.find? (fun g=>g.name == n)=none from find_no fun i x hx=>HNO.out i x (by have:=(List.getElem?_eq_some_iff.1 hx).1;omega) hx)
   go_wp2_with fail;go_ret
   exact⟨by rw [At1,HR.out] <;> rfl,HC.out⟩
end Go.Proofs.YtechofppmnnomaaGreatDoor
namespace Go.Mq.Run
open Go Go.RowKit Go.Mq Go.Mq.Tree
open Go.Mq.Check (FewM FewS FewE argsN)
theorem fns_app (M:Ms) (g d:Nat) (q:Nm) (fr:Fr) (p:Nat) (m n:Nm) (l:E) (s:St) : (fns M (g + 1)).e d q fr (.app p m n l) s=match M (where_ q m) with
  | none=>.stuck
  | some mo=>match mo.procs.find? fun p=>p.name == n with
   | none=>.stuck
   | some p=>((fns M g).es d q fr l s).bind fun args s=>(fns M g).c d (where_ q m) p args s:=rfl
theorem args_step {M:Ms} {g:Nat} {d:Nat} {q:Nm} {fr:Fr} {x r:E} {s:St} {zs:List Int} {o:O (List Int)} (h : o=((fns M g).es d q fr (.cons x r) s).bind fun l s=>.ok (zs ++ l) s) (ho : o ≠ .stuck) :
  ∃ g',g=g' + 1∧o=((fns M g').e d q fr x s).bind fun n s=>((fns M g').es d q fr r s).bind fun l s=>.ok ((zs ++ [n]) ++ l) s:=by
 cases g with
 | zero=>exact absurd h ho
 | succ g'=>
  refine⟨g',rfl,?_⟩;rw [h]
  show (((fns M g').e d q fr x s).bind fun n s=>((fns M g').es d q fr r s).bind fun l s=>.ok (n :: l) s).bind _=_
  cases (fns M g').e d q fr x s with
  | stuck=>rfl
  | stop w s=>rfl
  | ok n s1=>
   show (((fns M g').es d q fr r s1).bind fun l s=>.ok (n :: l) s).bind _=((fns M g').es d q fr r s1).bind _
   cases (fns M g').es d q fr r s1 with
   | stuck=>rfl
   | stop w s=>rfl
   | ok l s2=>simp [O.bind]
theorem args_end {M:Ms} {g:Nat} {d:Nat} {q:Nm} {fr:Fr} {r:E} {s:St} {zs:List Int} {o:O (List Int)} {w:World} {F:Nat→Prop} (hr:EAt w F r []) (h : o=((fns M g).es d q fr r s).bind fun l s=>.ok (zs ++ l) s) (ho : o ≠ .stuck) : o = .ok zs s:=by
 cases r with
 | nil=>
  cases g with
  | zero=>exact absurd h ho
  | succ g'=>rw [h];show O.ok (zs ++ []) s=_;rw [List.append_nil]
 | cons x r=>obtain⟨u,vs,he,_⟩:=hr;cases he
 | num p n=>obtain⟨b,he,_⟩:=hr;cases he
 | var p m n=>obtain⟨b,he,_⟩:=hr;cases he
 | item p m n i=>obtain⟨b,u,he,_⟩:=hr;cases he
 | un p op x=>obtain⟨b,u,he,_⟩:=hr;cases he
 | bin p op x y=>obtain⟨b,u,v,he,_⟩:=hr;cases he
 | app p m n l=>obtain⟨b,a,c,vs,he,_⟩:=hr;cases he
theorem es_cons {w:World} {F:Nat→Prop} {r:E} {u v:Value} {vs:List Value} {M:Ms} {g:Nat} {d:Nat} {q:Nm} {fr:Fr} {s:St} (hr:EAt w F r (u :: vs)) (h : (fns M g).es d q fr r s ≠ .stuck) : ∃ x r',r = .cons x r'∧EAt w F x [u]∧EAt w F r' vs:=by
 cases r with
 | cons x r'=>
  obtain⟨u',vs',he,h1,h2⟩:=hr;cases he
  exact⟨x,r',rfl,h1,h2⟩
 | nil=>cases hr
 | num p n=>cases g <;> exact absurd rfl h
 | var p m n=>cases g <;> exact absurd rfl h
 | item p m n i=>cases g <;> exact absurd rfl h
 | un p op x=>cases g <;> exact absurd rfl h
 | bin p op x y=>cases g <;> exact absurd rfl h
 | app p m n l=>cases g <;> exact absurd rfl h
theorem es_few {w:World} {F:Nat→Prop} {l:E} : ∀ {vs:List Value},EAt w F l vs→vs.length≤argsN l + 1:=by
 induction l with
 | cons x r _ ih=>rintro vs ⟨u,vs',rfl,_,h⟩;have:=ih h;simp [argsN];omega
 | nil=>intro vs h;rw [show vs=[] from h];simp
 | num p n=>rintro vs ⟨b,rfl,_⟩;simp
 | var p m n=>rintro vs ⟨b,rfl,_⟩;simp
 | item p m n i=>rintro vs ⟨b,u,rfl,_⟩;simp
 | un p op x=>rintro vs ⟨b,u,rfl,_⟩;simp
 | bin p op x y=>rintro vs ⟨b,u,v,rfl,_⟩;simp
 | app p m n l=>rintro vs ⟨b,a,c,vs',rfl,_⟩;simp
theorem cell_drop {w:World} {F:Nat→Prop} {a:Option Addr} {vs:List Value} {k:Nat} (h:Row w F a vs) (hk : k < vs.length) : ∃ bb off,a=some ⟨bb,off,none⟩∧w.cell? ⟨bb,off + k,none⟩=some vs[k]:=by
 obtain⟨bb,off,rfl,hc⟩:=h.at_ (by omega);exact⟨bb,off,rfl,hc k _ (List.getElem?_eq_getElem hk)⟩
end Go.Mq.Run
namespace Go.Proofs.YtechofppmnnomaaGreatDoor
open Go Go.RowKit Go.Mq Go.Mq.Tree Go.Mq.Run
open Go.Mq.Check (FewM FewS FewE argsN At1)
open Go.Mq.Sym (procsL_of)
set_option maxRecDepth 100000
set_option maxHeartbeats 4000000
theorem infoInt : (Tryz.prog.info? i64T).map (fun i=>(i.zero,i.size,i.bytes))=some (some (num 0),1,8):=by kernel_rfl
theorem e_app_own (g:Nat) (hE : ∀ g',g'≤g→ConE g') (hC:ConC g) {L:Lay} {d:Nat} {q:Nm} {fr:Fr} {p:Nat} {s:St} {w:World} {ov:Value} {ob:Option Nat} {u:Value} {m:Mod} {n:Nm} {l:E} {mq:Mod} {pr:Proc} (h:Going w L d s ov) (hq:L.M q=some m) (hfr:FrAt w ob fr) (hx:EAt w L.Fix (.app p [] n l) [u]) (hfe : argsN l≤1000∧FewE l) (hmq:L.M q=some mq) (hfind : mq.procs.find? (fun p=>p.name == n)=some pr) (ho : (fns L.M (g + 1)).e d q fr (.app p [] n l) s ≠ .stuck) :
  Calls Tryz.prog 117 #[ptr L.br,ptr (L.pb q),.map ob,u] w (Ran w L d ov [] (fun _ n e=>e = .returned (num n)) ((fns L.M (g + 1)).e d q fr (.app p [] n l) s)):=by
 obtain⟨b,ax,cx,vs,he,hF,hb,hvc,hrow,hxl⟩:=hx;cases he
 obtain⟨wA,hwA⟩ : ∃ x,w.alloc (.cells #[ptr b] 166)=x:=⟨_,rfl⟩
 have hc0:Chg [] w wA:=by rw [← hwA];exact(Chg.refl _ _).alloc _
 have hb0:=hb.kept hc0 (by simp);have hbx:Blk wA w.heap.size #[ptr b] 166:=by rw [← hwA];exact Blk.new w #[ptr b] 166
 have b0:=hbx.cell 0 _ rfl;have HX:=zh hb0;have HBX:=zh hbx;have HF:=zh hF;have d0:=hb0.cell 0 _ rfl;have d3:=hb0.cell 3 _ rfl;have d8:=hb0.cell 8 _ rfl;have HC0:=zh hc0;have H:=zh (h.kept hc0);have HFR:=zh (hfr.kept hc0 (by simp));obtain⟨tgt,ht⟩ : ∃ o,o=(fns L.M (g + 1)).e d q fr (.app p [] n l) s:=⟨_,rfl⟩
 have ht2 : tgt=((fns L.M g).es d q fr l s).bind (fun args s=>(fns L.M g).c d q pr args s):=by
  have hw : where_ q []=q:=rfl;rw [ht,fns_app];rw [hw,hmq];simp only [hfind]
 rw [← ht] at ho ⊢;obtain⟨oe,hoe⟩ : ∃ o,o=(fns L.M g).es d q fr l s:=⟨_,rfl⟩
 rw [← hoe] at ht2;have hone : oe ≠ .stuck:=fun hs=>ho (by rw [ht2,hs];rfl)
 have hoe0 : oe=((fns L.M g).es d q fr l s).bind fun l s=>.ok ([] ++ l) s:=by
  rw [hoe];cases (fns L.M g).es d q fr l s <;> rfl
 have hlen : vs.length≤1001:=by have:=es_few hxl;have:=hfe.1;omega
 have HOE:=zh hoe0;have HONE:=zh hone;have HT2:=zh ht2;have HFE:=zh hfe.2;have HQ:=zh hq;obtain⟨wB,hwB⟩ : ∃ x,x=wA:=⟨_,rfl⟩
 have hcB:Chg [] wA wB:=by rw [hwB];exact Chg.refl [] wA
 have HCB:=zh hcB;have HG0:=zh (H.out.kept hcB);have HFR0:=zh (HFR.out.kept hcB (by simp));have HX0:=zh (hb0.kept hcB (by simp));have HBX0:=zh (hbx.kept hcB (by simp));have HROW:=zh ((hrow.kept hc0 (by simp)).kept hcB (by simp));have HL0:=zh ((hxl.kept hc0 (by simp)).kept hcB (by simp));have q0:=HBX0.out.cell 0 _ rfl;have e0:=HX0.out.cell 0 _ rfl;have e8:=HX0.out.cell 8 _ rfl;have hbrl:=HG0.out.run.lt;have HBR:=zh hbrl;have HFIND:=zh hfind;have HMQ:=zh hmq;have HNF:=zh hF;subst hwB;clear h hb hb0 hc0 hfr hxl hbx ht hq hfe hmq hcB hrow ht2 hoe hoe0 hone hfind hbrl;have hmf : ∀ (fn:Fn) (first cap:Array Value) (w:World),(Instr.makeFunc fn first cap).run Tryz.prog w = .ok (.func fn first cap) w:=fun _ _ _ _=>rfl
 go_enter Tryz.func117,Tryz.ntmps117
 go_wp2_with fail;clear hwA;have HLN:=zh hlen;clear q0 e0 e8 b0 d0 d3 d8
 go_loopw [13,15,128] (fun av _ i wr=>∃ (k:Nat) (r:E) (zs:List Int) (s':St) (g':Nat) (ov':Value),i = .int .i64 k∧k≤vs.length∧zs.length=k∧EAt wr L.Fix r (vs.drop k)∧FewE r∧wr.ownsRow 0 i64T 1 av zs.length (ints zs)∧From wB.heap.size av∧(∀ x∈blk av,x∉mutL L ov')∧Going wr L d s' ov'∧Moved wB ov ov'∧Chg (mutL L ov) wB wr∧g'≤g∧oe=((fns L.M g').es d q fr r s').bind fun l s=>.ok (zs ++ l) s) (fun _ _ i _=>vs.length - (intOf i).toNat)
 case atStart=>exact⟨0,l,[],s,g,ov,rfl,Nat.zero_le _,rfl,HL0.out,HFE.out,World.ownsRow_nil _ _ _ _,From.nil _,(fun x hx=>by cases hx),HG0.out,Moved.refl _ _,Chg.refl _ _,Nat.le_refl _,HOE.out⟩
 case round=>
  obtain⟨k,r,zs,s',g',ov',rfl,hk,hzk,hrl,hrf,hown,hfrm,hnot,hg,hm,hc,hgg,hoe⟩:=hrel;obtain⟨aa,ca,rfl⟩:=slice_of_owns hown;have HOWN:=zh hown;have HFRM:=zh hfrm;have HNOT:=zh hnot;have HG:=zh hg;have HM:=zh hm;have HC:=zh hc;have hlen:=HLN.out;have HZK:=zh hzk;clear hzk;have hnbx : w.heap.size∉mutL L ov:=HG0.out.notblk HBX0.out (by decide) (by decide);have hnx : b∉mutL L ov:=fun hm=>HG0.out.notfix b hm HNF.out
  have hs0:=hc.size;have HS0:=zh hs0;by_cases hlt : k < vs.length
  ·obtain⟨bb,off,rfl,hcell⟩:=cell_drop (HROW.out.kept hc (by simpa using HG0.out.notfix)) hlt
   rw [List.drop_eq_getElem_cons hlt] at hrl;obtain⟨x,r',rfl,hx1,hr1⟩:=es_cons (v:=nilp) hrl (fun hs=>HONE.out (by rw [hoe,hs];rfl));obtain⟨uk,huk⟩ : ∃ z,z=vs[k]:=⟨_,rfl⟩
   rw [← huk] at hx1 hcell;obtain⟨g2,rfl,hoe2⟩:=args_step hoe HONE.out;have HR1:=zh hr1;have HRF:=zh hrf.2;have HOE2:=zh hoe2;have q0:=(HBX0.out.kept hc hnbx).cell 0 _ rfl;have HCON:=zh (hE g2 (by omega) hg HQ.out (HFR0.out.kept hc (HFR0.out.notmut HG0.out)) hx1 hrf.1 (fun hs=>HONE.out (by rw [hoe2,hs];rfl)));clear hown hfrm hnot hg hm hc hoe hx1 hr1 hrf huk hnbx hnx;cases hr : (fns L.M g2).e d q fr x s' with
   | stuck=>exact absurd (by rw [HOE2.out,hr];rfl) HONE.out
   | stop way s2=>
    rw [hr] at HCON;have HT:=zh (show tgt = .stop way s2 by rw [HT2.out,HOE2.out,hr];rfl);clear hr hoe2;go_wp2_with fail;refine HCON.out.mono ?_;rintro e w1 ⟨ov2,hm,hc,⟨older,hol,rfl⟩,d',hg⟩;have HM1:=zh hm;have HC1:=zh hc;have HG1:=zh hg;clear hm hc hg;go_wp2_with fail;refine⟨rfl,?_⟩;rw [HT.out];exact Ran.after (Ran.after (Ran.then HM.out HC.out (Ran.ended HM1.out HC1.out HG1.out (Chg.refl _ _) ⟨older,hol,rfl⟩)) HCB.out) HC0.out
   | ok v s2=>
    rw [hr] at HCON;have HOE3:=zh (show oe=((fns L.M g2).es d q fr r' s2).bind fun l s=>.ok ((zs ++ [v]) ++ l) s by rw [HOE2.out,hr];rfl);clear hr hoe2;go_wp2_with fail;refine HCON.out.mono ?_;rintro e w1 ⟨ov2,hm,hc,rfl,hg⟩;have HM1:=zh hm;have HC1:=zh hc;have HG1:=zh hg;have hs1:=hc.size;have HOWN1:=zh (owns_kept HOWN.out hc (fun y hy=>by simpa using HNOT.out y hy));have HNOT1:=zh (fun y (hy : y∈blk (.slice aa zs.length ca))=>notmut_moved (L:=L) hm (owns_lt HOWN.out y hy) (HNOT.out y hy));have HR2:=zh (HR1.out.kept hc (by simpa using HG.out.notfix));clear hm hc hg;have HO4:=zh (owns_kept HOWN1.out ((Chg.refl [] w1).alloc (.cells #[num v] i64T)) (by simp));go_wp2_with (at_builtin;go_must (refine wpL_append rfl _ _ 41 rfl i64T _ 1 8 infoInt Tryz.underlying41 rfl (by decide) _ zs.length (ints zs) rfl HO4.out ⟨w1.heap.size,0,none⟩ 1 1 [num v] rfl rfl (cell_new1 _ _ _) (by simp [Value.oneCell']) ?_ ?_ ?_))
    ·have:=HZK.out;omega
    ·have:=HZK.out;unfold maxLen;omega
    ·intro v' w' hown' hch' hmv'
     have HO':=zh hown';have HCH:=zh hch';have HMV:=zh hmv';obtain⟨va,vc,rfl⟩:=slice_of_owns hown';clear hown' hch' hmv';go_wp2_with fail;have hca:Chg [] w1 (w1.alloc (.cells #[num v] i64T)):=(Chg.refl [] w1).alloc _;have hnz : ∀ y∈blk (.slice aa zs.length ca),y∉mutL L ov2∧¬ L.Fix y:=fun y hy=>⟨HNOT1.out y hy,fun hf=>by have:=HG0.out.lay.fix hf;have:=HFRM.out y hy;have:=HBR.out;omega⟩
     refine⟨⟨k + 1,r',zs ++ [v],s2,g2,ov2,by go_num,by omega,by rw [List.length_append,HZK.out];rfl,?_,HRF.out,by rw [List.length_append,ints,List.map_append];exact HO'.out,fun y hy=>?_,fun y hy=>?_,(HG1.out.kept hca).aside HCH.out hnz,HM.out.trans HC.out HM1.out,?_,by omega,HOE3.out⟩,by simp [intOf];omega⟩
     ·exact(HR2.out.kept hca (by simp)).kept HCH.out (fun y hy=>(hnz y hy).2)
     ·rcases HMV.out y hy with h|h
      ·exact HFRM.out y h
      ·have:=HS0.out;simp at h;omega
     ·rcases HMV.out y hy with h|h
      ·exact HNOT1.out y h
      ·intro hmm;have:=HG1.out.lt y hmm;simp at h;omega
     ·have h1:Chg (mutL L ov) wB w1:=HC.out.trans HC1.out (fun y hy=>mutL_moved HC.out HM.out y (by simpa using hy))
      exact(h1.then hca.weak).trans HCH.out (fun y hy=>.inr (by have:=HFRM.out y hy;omega))
  ·have hkn : k=vs.length:=by omega
   rw [hkn,List.drop_length] at hrl;have hoz:=args_end hrl hoe HONE.out;have ht3 : tgt=(fns L.M g).c d q pr zs s':=by rw [HT2.out,hoz];rfl
   obtain⟨c0,c1,c2,c3,c4,bm,hpb,hpf,_⟩:=part_vars hg HMQ.out;obtain⟨_,bp,pes,_,_,_,_,hall⟩:=hg.stat;have hpart:=hall q;rw [HMQ.out] at hpart;obtain⟨_,_,hfew,ai,ci,av,cv,ap,cp,ab,cb,bv,es,h3,h4,_⟩:=hpart;have hb3:=h3.cell 3 _ rfl;obtain⟨vi,vv,vp,vb,hve,_,_,hpr,_⟩:=h4;cases hve
   have q0:=(HBX0.out.kept hc hnbx).cell 0 _ rfl;have HIX:=zh (rindexp_any mq.procs hfew.procs n b w.heap.size (.int .i64 6) (.int .i64 p) (.int .i64 0) (str []) (str []) nilp nilp (.slice ax vs.length cx) L.Fix _ wr (procsL_of hpr) q0 (HX0.out.kept hc hnx));have HPR:=zh hpr;have HB3:=zh h3;have HFW:=zh hfew;have HT3:=zh ht3;have hne : tgt ≠ .stuck:=ho;have HNE:=zh hne;clear hown hfrm hnot hg hm hc hoe hrl hoz ht3 hpb hpf hall h3 hpr hfew hnbx hnx hne;go_wp2_with fail;refine HIX.out.mono ?_;rintro e w1 ⟨hat,hc1⟩;rw [At1,HFIND.out] at hat;obtain⟨kk,hkk,rfl⟩:=hat;have HC1:=zh hc1;have HG1:=zh (HG.out.kept hc1);have hpr1:=HPR.out.kept hc1 (by simp);obtain⟨bb,off,cc,vvp,vvv,vvb,hsl,hcc,d0,d1,d2,d3,d4,d5,hn1,hn2,hn3⟩:=procsAt_cells hpr1 hkk;simp only [Value.slice.injEq,true_and] at hsl;obtain⟨rfl,rfl⟩:=hsl;have hb3:=(HB3.out.kept hc1 (by simp)).cell 3 _ rfl;have hkl:=(List.getElem?_eq_some_iff.1 hkk).1;have hmem : pr∈mq.procs:=List.mem_of_getElem? hkk;have hpl:=HFW.out.procs;obtain⟨hb1,hb2⟩:=HFW.out.bodies pr hmem;obtain⟨hp1,hp2⟩:=HFW.out.params pr hmem;have hrowa:Row w1 (fun y=>y∉mutL L ov') aa (ints zs):=by
    obtain⟨a',c',he,_,hr⟩:=Row.of_owns (F:=fun y=>y∉mutL L ov') HOWN.out HNOT.out;cases he
    exact hr.kept hc1 (by simp)
   have HCC:=zh (hC HG1.out HMQ.out hn1 hn2 hn3 hb1 hb2 (by omega) (by omega) (c:=ca) hrowa (by have:=HLN.out;have:=HZK.out;omega) (fun hs=>HNE.out (by rw [HT3.out];exact hs)));clear hc1 hpr1 hkk hn1 hn2 hn3 hrowa hb1 hb2 hmem hpl;go_wp2_with fail;refine HCC.out.mono ?_;intro e w2 he;rw [← HT3.out] at he;have hee:=Ran.after (Ran.after (Ran.then HM.out HC.out (Ran.after he HC1.out)) HCB.out) HC0.out;have HEE:=zh hee;obtain⟨_,_,_,hres⟩:=hee;clear he;cases tgt with
   | stuck=>exact absurd rfl HNE.out
   | stop way s9=>
    obtain⟨⟨older,hol,rfl⟩,_⟩:=hres;clear hol;go_wp2_with fail;exact⟨rfl,HEE.out⟩
   | ok v s9=>
    obtain⟨rfl,_⟩:=hres;go_wp2_with fail;go_ret
    exact HEE.out
theorem e_app_other (g:Nat) (hE : ∀ g',g'≤g→ConE g') (hC:ConC g) {L:Lay} {d:Nat} {q:Nm} {fr:Fr} {p:Nat} {s:St} {w:World} {ov:Value} {ob:Option Nat} {u:Value} {m:Mod} {mm:Nm} {n:Nm} {l:E} {mq:Mod} {pr:Proc} (h:Going w L d s ov) (hq:L.M q=some m) (hfr:FrAt w ob fr) (hx:EAt w L.Fix (.app p mm n l) [u]) (hfe : argsN l≤1000∧FewE l) (hmm : mm≠[]) (hmq:L.M mm=some mq) (hfind : mq.procs.find? (fun p=>p.name == n)=some pr) (ho : (fns L.M (g + 1)).e d q fr (.app p mm n l) s ≠ .stuck) :
  Calls Tryz.prog 117 #[ptr L.br,ptr (L.pb q),.map ob,u] w (Ran w L d ov [] (fun _ n e=>e = .returned (num n)) ((fns L.M (g + 1)).e d q fr (.app p mm n l) s)):=by
 obtain⟨b,ax,cx,vs,he,hF,hb,hvc,hrow,hxl⟩:=hx;cases he
 obtain⟨wA,hwA⟩ : ∃ x,w.alloc (.cells #[ptr b] 166)=x:=⟨_,rfl⟩
 have hc0:Chg [] w wA:=by rw [← hwA];exact(Chg.refl _ _).alloc _
 have hb0:=hb.kept hc0 (by simp);have hbx:Blk wA w.heap.size #[ptr b] 166:=by rw [← hwA];exact Blk.new w #[ptr b] 166
 have b0:=hbx.cell 0 _ rfl;have HX:=zh hb0;have HBX:=zh hbx;have HF:=zh hF;have d0:=hb0.cell 0 _ rfl;have d3:=hb0.cell 3 _ rfl;have d8:=hb0.cell 8 _ rfl;have HC0:=zh hc0;have H:=zh (h.kept hc0);have HFR:=zh (hfr.kept hc0 (by simp));obtain⟨tgt,ht⟩ : ∃ o,o=(fns L.M (g + 1)).e d q fr (.app p mm n l) s:=⟨_,rfl⟩
 have ht2 : tgt=((fns L.M g).es d q fr l s).bind (fun args s=>(fns L.M g).c d mm pr args s):=by
  have hw : where_ q mm=mm:=by rw [where_,if_neg hmm]
  rw [ht,fns_app];rw [hw,hmq];simp only [hfind]
 rw [← ht] at ho ⊢;obtain⟨oe,hoe⟩ : ∃ o,o=(fns L.M g).es d q fr l s:=⟨_,rfl⟩
 rw [← hoe] at ht2;have hone : oe ≠ .stuck:=fun hs=>ho (by rw [ht2,hs];rfl)
 have hoe0 : oe=((fns L.M g).es d q fr l s).bind fun l s=>.ok ([] ++ l) s:=by
  rw [hoe];cases (fns L.M g).es d q fr l s <;> rfl
 have hlen : vs.length≤1001:=by have:=es_few hxl;have:=hfe.1;omega
 have HOE:=zh hoe0;have HONE:=zh hone;have HT2:=zh ht2;have HFE:=zh hfe.2;have HQ:=zh hq;obtain⟨wB,hwB⟩ : ∃ x,x=wA.drew:=⟨_,rfl⟩
 have hcB:Chg [] wA wB:=by rw [hwB];exact(Chg.refl [] wA).drew
 have HCB:=zh hcB;have HG0:=zh (H.out.kept hcB);have HFR0:=zh (HFR.out.kept hcB (by simp));have HX0:=zh (hb0.kept hcB (by simp));have HBX0:=zh (hbx.kept hcB (by simp));have HROW:=zh ((hrow.kept hc0 (by simp)).kept hcB (by simp));have HL0:=zh ((hxl.kept hc0 (by simp)).kept hcB (by simp));have q0:=HBX0.out.cell 0 _ rfl;have e0:=HX0.out.cell 0 _ rfl;have e8:=HX0.out.cell 8 _ rfl;have hbrl:=HG0.out.run.lt;have HBR:=zh hbrl;have HFIND:=zh hfind;have HMQ:=zh hmq;have HNF:=zh hF;have r0:=H.out.run.cell 0 _ rfl;obtain⟨bp,wc1,hwb,hwf,hlw⟩:=world_parts H.out;have w0:=hwb.cell 0 _ rfl;have hl0:=hlw wA.drew [] (Chg.refl _ _).drew (by simp) mm;rw [hmq] at hl0;simp only at hl0;have hm1 : (mm == [])=false:=by simpa using hmm
 have hm2 : (mm != [])=true:=by simpa using hmm
 clear hlw hwb hwf hmm;clear h hb hb0 hc0 hfr hxl hbx ht hq hfe hmq hcB hrow ht2 hoe hoe0 hone hfind hbrl;have hmf : ∀ (fn:Fn) (first cap:Array Value) (w:World),(Instr.makeFunc fn first cap).run Tryz.prog w = .ok (.func fn first cap) w:=fun _ _ _ _=>rfl
 go_enter Tryz.func117,Tryz.ntmps117
 go_wp2_with fail
 go_region
 all_goals (try go_wp2_with fail)
 rw [← hwB];clear hwB hm1 hm2 r0 w0 hl0;clear hwA;have HLN:=zh hlen;clear q0 e0 e8 b0 d0 d3 d8
 go_loopw [13,15,128] (fun av _ i wr=>∃ (k:Nat) (r:E) (zs:List Int) (s':St) (g':Nat) (ov':Value),i = .int .i64 k∧k≤vs.length∧zs.length=k∧EAt wr L.Fix r (vs.drop k)∧FewE r∧wr.ownsRow 0 i64T 1 av zs.length (ints zs)∧From wB.heap.size av∧(∀ x∈blk av,x∉mutL L ov')∧Going wr L d s' ov'∧Moved wB ov ov'∧Chg (mutL L ov) wB wr∧g'≤g∧oe=((fns L.M g').es d q fr r s').bind fun l s=>.ok (zs ++ l) s) (fun _ _ i _=>vs.length - (intOf i).toNat)
 case atStart=>exact⟨0,l,[],s,g,ov,rfl,Nat.zero_le _,rfl,HL0.out,HFE.out,World.ownsRow_nil _ _ _ _,From.nil _,(fun x hx=>by cases hx),HG0.out,Moved.refl _ _,Chg.refl _ _,Nat.le_refl _,HOE.out⟩
 case round=>
  obtain⟨k,r,zs,s',g',ov',rfl,hk,hzk,hrl,hrf,hown,hfrm,hnot,hg,hm,hc,hgg,hoe⟩:=hrel;obtain⟨aa,ca,rfl⟩:=slice_of_owns hown;have HOWN:=zh hown;have HFRM:=zh hfrm;have HNOT:=zh hnot;have HG:=zh hg;have HM:=zh hm;have HC:=zh hc;have hlen:=HLN.out;have HZK:=zh hzk;clear hzk;have hnbx : w.heap.size∉mutL L ov:=HG0.out.notblk HBX0.out (by decide) (by decide);have hnx : b∉mutL L ov:=fun hm=>HG0.out.notfix b hm HNF.out
  have hs0:=hc.size;have HS0:=zh hs0;by_cases hlt : k < vs.length
  ·obtain⟨bb,off,rfl,hcell⟩:=cell_drop (HROW.out.kept hc (by simpa using HG0.out.notfix)) hlt
   rw [List.drop_eq_getElem_cons hlt] at hrl;obtain⟨x,r',rfl,hx1,hr1⟩:=es_cons (v:=nilp) hrl (fun hs=>HONE.out (by rw [hoe,hs];rfl));obtain⟨uk,huk⟩ : ∃ z,z=vs[k]:=⟨_,rfl⟩
   rw [← huk] at hx1 hcell;obtain⟨g2,rfl,hoe2⟩:=args_step hoe HONE.out;have HR1:=zh hr1;have HRF:=zh hrf.2;have HOE2:=zh hoe2;have q0:=(HBX0.out.kept hc hnbx).cell 0 _ rfl;have HCON:=zh (hE g2 (by omega) hg HQ.out (HFR0.out.kept hc (HFR0.out.notmut HG0.out)) hx1 hrf.1 (fun hs=>HONE.out (by rw [hoe2,hs];rfl)));clear hown hfrm hnot hg hm hc hoe hx1 hr1 hrf huk hnbx hnx;cases hr : (fns L.M g2).e d q fr x s' with
   | stuck=>exact absurd (by rw [HOE2.out,hr];rfl) HONE.out
   | stop way s2=>
    rw [hr] at HCON;have HT:=zh (show tgt = .stop way s2 by rw [HT2.out,HOE2.out,hr];rfl);clear hr hoe2;go_wp2_with fail;refine HCON.out.mono ?_;rintro e w1 ⟨ov2,hm,hc,⟨older,hol,rfl⟩,d',hg⟩;have HM1:=zh hm;have HC1:=zh hc;have HG1:=zh hg;clear hm hc hg;go_wp2_with fail;refine⟨rfl,?_⟩;rw [HT.out];exact Ran.after (Ran.after (Ran.then HM.out HC.out (Ran.ended HM1.out HC1.out HG1.out (Chg.refl _ _) ⟨older,hol,rfl⟩)) HCB.out) HC0.out
   | ok v s2=>
    rw [hr] at HCON;have HOE3:=zh (show oe=((fns L.M g2).es d q fr r' s2).bind fun l s=>.ok ((zs ++ [v]) ++ l) s by rw [HOE2.out,hr];rfl);clear hr hoe2;go_wp2_with fail;refine HCON.out.mono ?_;rintro e w1 ⟨ov2,hm,hc,rfl,hg⟩;have HM1:=zh hm;have HC1:=zh hc;have HG1:=zh hg;have hs1:=hc.size;have HOWN1:=zh (owns_kept HOWN.out hc (fun y hy=>by simpa using HNOT.out y hy));have HNOT1:=zh (fun y (hy : y∈blk (.slice aa zs.length ca))=>notmut_moved (L:=L) hm (owns_lt HOWN.out y hy) (HNOT.out y hy));have HR2:=zh (HR1.out.kept hc (by simpa using HG.out.notfix));clear hm hc hg;have HO4:=zh (owns_kept HOWN1.out ((Chg.refl [] w1).alloc (.cells #[num v] i64T)) (by simp));go_wp2_with (at_builtin;go_must (refine wpL_append rfl _ _ 41 rfl i64T _ 1 8 infoInt Tryz.underlying41 rfl (by decide) _ zs.length (ints zs) rfl HO4.out ⟨w1.heap.size,0,none⟩ 1 1 [num v] rfl rfl (cell_new1 _ _ _) (by simp [Value.oneCell']) ?_ ?_ ?_))
    ·have:=HZK.out;omega
    ·have:=HZK.out;unfold maxLen;omega
    ·intro v' w' hown' hch' hmv'
     have HO':=zh hown';have HCH:=zh hch';have HMV:=zh hmv';obtain⟨va,vc,rfl⟩:=slice_of_owns hown';clear hown' hch' hmv';go_wp2_with fail;have hca:Chg [] w1 (w1.alloc (.cells #[num v] i64T)):=(Chg.refl [] w1).alloc _;have hnz : ∀ y∈blk (.slice aa zs.length ca),y∉mutL L ov2∧¬ L.Fix y:=fun y hy=>⟨HNOT1.out y hy,fun hf=>by have:=HG0.out.lay.fix hf;have:=HFRM.out y hy;have:=HBR.out;omega⟩
     refine⟨⟨k + 1,r',zs ++ [v],s2,g2,ov2,by go_num,by omega,by rw [List.length_append,HZK.out];rfl,?_,HRF.out,by rw [List.length_append,ints,List.map_append];exact HO'.out,fun y hy=>?_,fun y hy=>?_,(HG1.out.kept hca).aside HCH.out hnz,HM.out.trans HC.out HM1.out,?_,by omega,HOE3.out⟩,by simp [intOf];omega⟩
     ·exact(HR2.out.kept hca (by simp)).kept HCH.out (fun y hy=>(hnz y hy).2)
     ·rcases HMV.out y hy with h|h
      ·exact HFRM.out y h
      ·have:=HS0.out;simp at h;omega
     ·rcases HMV.out y hy with h|h
      ·exact HNOT1.out y h
      ·intro hmm;have:=HG1.out.lt y hmm;simp at h;omega
     ·have h1:Chg (mutL L ov) wB w1:=HC.out.trans HC1.out (fun y hy=>mutL_moved HC.out HM.out y (by simpa using hy))
      exact(h1.then hca.weak).trans HCH.out (fun y hy=>.inr (by have:=HFRM.out y hy;omega))
  ·have hkn : k=vs.length:=by omega
   rw [hkn,List.drop_length] at hrl;have hoz:=args_end hrl hoe HONE.out;have ht3 : tgt=(fns L.M g).c d mm pr zs s':=by rw [HT2.out,hoz];rfl
   obtain⟨c0,c1,c2,c3,c4,bm,hpb,hpf,_⟩:=part_vars hg HMQ.out;obtain⟨_,bp,pes,_,_,_,_,hall⟩:=hg.stat;have hpart:=hall mm;rw [HMQ.out] at hpart;obtain⟨_,_,hfew,ai,ci,av,cv,ap,cp,ab,cb,bv,es,h3,h4,_⟩:=hpart;have hb3:=h3.cell 3 _ rfl;obtain⟨vi,vv,vp,vb,hve,_,_,hpr,_⟩:=h4;cases hve
   have q0:=(HBX0.out.kept hc hnbx).cell 0 _ rfl;have HIX:=zh (rindexp_any mq.procs hfew.procs n b w.heap.size (.int .i64 6) (.int .i64 p) (.int .i64 0) (str mm) (str []) nilp nilp (.slice ax vs.length cx) L.Fix _ wr (procsL_of hpr) q0 (HX0.out.kept hc hnx));have HPR:=zh hpr;have HB3:=zh h3;have HFW:=zh hfew;have HT3:=zh ht3;have hne : tgt ≠ .stuck:=ho;have HNE:=zh hne;clear hown hfrm hnot hg hm hc hoe hrl hoz ht3 hpb hpf hall h3 hpr hfew hnbx hnx hne;go_wp2_with fail;refine HIX.out.mono ?_;rintro e w1 ⟨hat,hc1⟩;rw [At1,HFIND.out] at hat;obtain⟨kk,hkk,rfl⟩:=hat;have HC1:=zh hc1;have HG1:=zh (HG.out.kept hc1);have hpr1:=HPR.out.kept hc1 (by simp);obtain⟨bb,off,cc,vvp,vvv,vvb,hsl,hcc,d0,d1,d2,d3,d4,d5,hn1,hn2,hn3⟩:=procsAt_cells hpr1 hkk;simp only [Value.slice.injEq,true_and] at hsl;obtain⟨rfl,rfl⟩:=hsl;have hb3:=(HB3.out.kept hc1 (by simp)).cell 3 _ rfl;have hkl:=(List.getElem?_eq_some_iff.1 hkk).1;have hmem : pr∈mq.procs:=List.mem_of_getElem? hkk;have hpl:=HFW.out.procs;obtain⟨hb1,hb2⟩:=HFW.out.bodies pr hmem;obtain⟨hp1,hp2⟩:=HFW.out.params pr hmem;have hrowa:Row w1 (fun y=>y∉mutL L ov') aa (ints zs):=by
    obtain⟨a',c',he,_,hr⟩:=Row.of_owns (F:=fun y=>y∉mutL L ov') HOWN.out HNOT.out;cases he
    exact hr.kept hc1 (by simp)
   have HCC:=zh (hC HG1.out HMQ.out hn1 hn2 hn3 hb1 hb2 (by omega) (by omega) (c:=ca) hrowa (by have:=HLN.out;have:=HZK.out;omega) (fun hs=>HNE.out (by rw [HT3.out];exact hs)));clear hc1 hpr1 hkk hn1 hn2 hn3 hrowa hb1 hb2 hmem hpl;go_wp2_with fail;refine HCC.out.mono ?_;intro e w2 he;rw [← HT3.out] at he;have hee:=Ran.after (Ran.after (Ran.then HM.out HC.out (Ran.after he HC1.out)) HCB.out) HC0.out;have HEE:=zh hee;obtain⟨_,_,_,hres⟩:=hee;clear he;cases tgt with
   | stuck=>exact absurd rfl HNE.out
   | stop way s9=>
    obtain⟨⟨older,hol,rfl⟩,_⟩:=hres;clear hol;go_wp2_with fail;exact⟨rfl,HEE.out⟩
   | ok v s9=>
    obtain⟨rfl,_⟩:=hres;go_wp2_with fail;go_ret
    exact HEE.out
end Go.Proofs.YtechofppmnnomaaGreatDoor
namespace Go.Proofs.YtechofppmnnomaaGreatDoor
open Go Go.RowKit Go.Mq Go.Mq.Tree Go.Mq.Run
open Go.Mq.Check (FewM FewS FewE argsN)
set_option maxRecDepth 100000
theorem conE_zero:ConE 0:=fun _ _ _ _ _ ho=>absurd rfl ho
theorem conE_succ (g:Nat) (hE : ∀ g',g'≤g→ConE g') (hC:ConC g):ConE (g + 1):=by
 intro L d q fr x s w ov ob u m h hq hfr hx hfe ho;cases x with
 | num p n=>exact e_num g h hx
 | var p mm n=>
  by_cases hm : mm=[]
  ·subst hm
   cases hv : getF fr n with
   | some v=>
    have he : (fns L.M (g + 1)).e d q fr (.var p [] n) s = .ok v s:=by
     show (match getF fr n with
      | some v=>O.ok v s
      | none=>varO (s.vs q n) s)=_
     rw [hv]
    rw [he];exact e_local h hfr hx hv
   | none=>
    have he : (fns L.M (g + 1)).e d q fr (.var p [] n) s=varO (s.vs q n) s:=by
     show (match getF fr n with
      | some v=>O.ok v s
      | none=>varO (s.vs q n) s)=_
     rw [hv]
    rw [he] at ho ⊢;obtain⟨v,hv2⟩:=varO_some ho;rw [hv2];exact e_own h hfr hx hv hv2
  ·have he : (fns L.M (g + 1)).e d q fr (.var p mm n) s=varO (s.vs mm n) s:=by
    show (if mm=[] then _ else _)=_
    rw [if_neg hm]
   rw [he] at ho ⊢;obtain⟨v,hv2⟩:=varO_some ho;rw [hv2];exact e_other h hfr hx hm hv2
 | item p mm n i=>
  cases hmq:L.M (where_ q mm) with
  | none=>exact absurd (by show (if (L.M (where_ q mm)).isSome then _ else _)=_;rw [hmq];rfl) ho
  | some mq=>
   by_cases hm : mm=[]
   ·subst hm
    cases hd:L.dim q n with
    | none=>exact e_item_own_none g (hE g (Nat.le_refl _)) h hq hfr hx hfe hmq hd ho
    | some x=>exact e_item_own g (hE g (Nat.le_refl _)) h hq hfr hx hfe hmq hd ho
   ·rw [where_,if_neg hm] at hmq
    cases hd:L.dim mm n with
    | none=>exact e_item_other_none g (hE g (Nat.le_refl _)) h hq hfr hx hfe hm hmq hd ho
    | some x=>exact e_item_other g (hE g (Nat.le_refl _)) h hq hfr hx hfe hm hmq hd ho
 | un p op x=>exact e_un g (hE g (Nat.le_refl _)) h hq hfr hx hfe ho
 | bin p op x y=>
  by_cases h1 : op=[97,110,100]
  ·subst h1
   exact e_and g (hE g (Nat.le_refl _)) h hq hfr hx hfe ho
  ·by_cases h2 : op=[111,114]
   ·subst h2
    exact e_or g (hE g (Nat.le_refl _)) h hq hfr hx hfe ho
   ·exact e_two g (hE g (Nat.le_refl _)) h hq hfr hx hfe h1 h2 ho
 | app p mm n l=>
  have hs : (fns L.M (g + 1)).e d q fr (.app p mm n l) s=match L.M (where_ q mm) with
   | none=>.stuck
   | some mo=>match mo.procs.find? fun p=>p.name == n with
    | none=>.stuck
    | some p=>((fns L.M g).es d q fr l s).bind fun args s=>(fns L.M g).c d (where_ q mm) p args s:=rfl
  cases hmq:L.M (where_ q mm) with
  | none=>exact absurd (by rw [hs,hmq]) ho
  | some mq=>
   cases hf : mq.procs.find? fun p=>p.name == n with
   | none=>exact absurd (by rw [hs,hmq];simp only [hf]) ho
   | some pr=>
    by_cases hm : mm=[]
    ·subst hm
     exact e_app_own g hE hC h hq hfr hx hfe hmq hf ho
    ·rw [where_,if_neg hm] at hmq
     exact e_app_other g hE hC h hq hfr hx hfe hm hmq hf ho
 | nil=>exact absurd rfl ho
 | cons x r=>exact absurd rfl ho
end Go.Proofs.YtechofppmnnomaaGreatDoor
