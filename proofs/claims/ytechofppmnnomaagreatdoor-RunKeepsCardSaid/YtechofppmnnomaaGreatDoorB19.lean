/- Some texts in one. -/
import Derived.Test.YtechofppmnnomaaGreatDoorB5
import Derived.Test.YtechofppmnnomaaGreatDoorB11
import Derived.Test.YtechofppmnnomaaGreatDoorB15
import Derived.Test.YtechofppmnnomaaGreatDoorB18
namespace Go.Mq.Run
open Go Go.RowKit Go.Mq Go.Mq.Tree
open Go.Mq.fo (aZ getM dB)
open Go.Mq.Sym (yO)
section
variable {w w':World} {L:Lay} {d:Nat} {s:St} {ov aR:Value}
theorem J6 (h:Going w L d s ov):L.br∉blk ov:=fun hm=>by have:=h.from_ _ hm;omega
theorem AL (h:Going w L d s ov):L.br∉L.ay:=fun hm=>by have:=(h.lay.ay hm).2;omega
theorem J7 (h:Going w L d s ov) {b:Nat} (hb : b∈L.ay) : b∉blk ov:=fun hm=>by have:=h.from_ _ hm;have:=(h.lay.ay hb).2;omega
theorem J8 (h:Going w L d s ov) : ¬ L.Fix L.br:=fun hf=>by have:=h.lay.fix hf;omega
theorem Going.P8 (h:Going w L d s ov) {f d':Nat} (hc:ae [L.br] w w') (hb:ag w' L.br #[ptr L.bw,num f,num d',ov] runT) (hd : d'≤30) (hf : f≤9223372036854775807):Going w' L d' { s with fuel:=f } ov:=
 ⟨h.lay,h.stat.kept hc (by simpa using J8 h),hb,h.dyn.kept hc fun q n b k hq=>by
  have:=(h.lay.ay (h.lay.arr hq).1).2;simp;omega,fun hx=>by
  obtain⟨cs,f,hh⟩:=h.oJ hx;refine⟨cs,f,?_⟩;rw [hc.block _ (Array.getElem?_eq_some_iff.1 hh).1 (by simp;intro he;subst he;exact AL h hx)];exact hh,cK h.out hc (fun g hg hm=>by simp at hm;subst hm;exact J6 h hg),h.from_,h.few,hd,hf⟩
theorem Going.told (h:Going w L d s ov) {out:List Int} (hc:ae (L.br :: blk ov) w w') (hb:ag w' L.br #[ptr L.bw,num s.fuel,num d,aR] runT) (ho : w'.ownsRow 0 bO 1 aR out.length (ints out)) (hf:From (L.br + 1) aR) (hl : out.length≤200):Going w' L d { s with out:=out } aR:=
 ⟨h.lay,h.stat.kept hc (fun x hx=>h.dz x (by
  rcases List.mem_cons.1 hx with rfl|hx
  ·exact List.mem_cons_self
  ·exact List.mem_cons_of_mem _ (List.mem_append_left _ hx))),hb,h.dyn.kept hc fun q n b k hq hm=>by
  have ha:=(h.lay.arr hq).1;rcases List.mem_cons.1 hm with rfl|hm
  ·exact AL h ha
  ·exact J7 h ha hm,fun hx=>by
  obtain⟨cs,f,hh⟩:=h.oJ hx;refine⟨cs,f,?_⟩;rw [hc.block _ (Array.getElem?_eq_some_iff.1 hh).1 (fun hm=>by
   rcases List.mem_cons.1 hm with rfl|hm
   ·exact AL h hx
   ·exact J7 h hx hm)]
  exact hh,ho,hf,hl,h.deep,h.most⟩
theorem Going.put (h:Going w L d s ov) {q n:Nm} {b k i:Nat} {l:List Int} {v:Int} (hd:L.au q n=some (b,k)) (hl : s.vs q n=some l) (hc:ae [b] w w') (hb:ag w' b (ints (l.set i v)).toArray bO):Going w' L d { s with vs:=qa s.vs q n (l.set i v) } ov:=by
 have ha:=(h.lay.arr hd).1;refine⟨h.lay,h.stat.kept hc (by simpa using (h.lay.ay ha).1),h.run.kept hc (by simp;rintro rfl;exact AL h ha),fun q' n'=>?_,@fun bx hx=>?_,cK h.out hc (fun g hg hm=>by simp at hm;subst hm;exact J7 h ha hg),h.from_,h.few,h.deep,h.most⟩
 ·have:=h.dyn q' n'
  cases hq:L.au q' n' with
  | none=>
   rw [hq] at this;simp only [qa];rw [if_neg ?_]
   ·exact this
   ·rintro⟨rfl,rfl⟩
    rw [hd] at hq;cases hq
  | some x=>
   obtain⟨b',k'⟩:=x;rw [hq] at this;obtain⟨l',h1,h2,h3⟩:=this;by_cases he : q'=q∧n'=n
   ·obtain⟨rfl,rfl⟩:=he
    rw [hd] at hq;cases hq;rw [hl] at h1;cases h1;exact⟨_,by simp [qa],by simpa using h2,hb⟩
   ·refine⟨l',by simp only [qa,if_neg he];exact h1,h2,h3.kept hc ?_⟩
    simp
    intro hbb;subst hbb;obtain⟨e1,e2⟩:=h.lay.inj hq hd;exact he ⟨e1,e2⟩
 ·by_cases he : bx=b
  ·subst he;exact⟨_,_,hb⟩
  ·obtain⟨cs,f,hh⟩:=h.oJ hx
   exact⟨cs,f,by rw [hc.block _ (Array.getElem?_eq_some_iff.1 hh).1 (by simpa using he)];exact hh⟩
end
theorem Gg {w:World} {F:Nat→Prop} {l:List aX} {v:Value} (h:oz w F l v) {k:Nat} {x:aX} (hk : l[k]?=some x) :
  ∃ (bb off c:Nat) (vp vv vb:Value),v = .slice (some ⟨bb,off,none⟩) l.length c∧l.length≤c∧w.cell? ⟨bb,off + k * 6,none⟩=some (str x.name)∧w.cell? ⟨bb,off + k * 6 + 1,none⟩=some (num x.pos) ∧
   w.cell? ⟨bb,off + k * 6 + 2,none⟩=some (.bool x.seen)∧w.cell? ⟨bb,off + k * 6 + 3,none⟩=some vp∧w.cell? ⟨bb,off + k * 6 + 4,none⟩=some vv∧w.cell? ⟨bb,off + k * 6 + 5,none⟩=some vb∧eF w F x.params vp∧eF w F x.vars vv∧fT w F x.body vb:=by
 obtain⟨a,c,cs,rfl,hlc,hrow,hps⟩:=h;have key : ∀ {l:List aX} {cs:List Value} {k:Nat} {x:aX},kG w F l cs→l[k]?=some x → ∃ cs1 c cs',cs=cs1 ++ (c ++ cs')∧cs1.length=k * 6∧pR w F x c:=by
  intro l
  induction l with
  | nil=>intro cs k x _ hk;simp at hk
  | cons y r ih=>
   intro cs k x h hk;obtain⟨c1,c2,rfl,h1,h2⟩:=h;cases k with
   | zero=>simp at hk;subst hk;exact⟨[],c1,c2,rfl,rfl,h1⟩
   | succ k=>
    obtain⟨cs1,c,cs',rfl,hl,hp⟩:=ih h2 (by simpa using hk);obtain⟨_,_,_,rfl,_⟩:=h1;exact⟨_ ++ cs1,c,cs',by rw [List.append_assoc],by simp [hl];omega,hp⟩
 obtain⟨cs1,c6,cs',rfl,hl,vp,vv,vb,rfl,h1,h2,h3⟩:=key hps hk;obtain⟨bb,off,rfl,d0,d1,d2,d3,d4,d5⟩:=yO (cs':=cs') hrow hl;exact⟨bb,off,c,vp,vv,vb,rfl,hlc,d0,d1,d2,d3,d4,d5,h1,h2,h3⟩
end Go.Mq.Run
namespace Go.Proofs.YtechofppmnnomaaGreatDoor
open Go Go.RowKit Go.Mq Go.Mq.Tree Go.Mq.Run
open Go.Mq.Check (ik lI)
set_option maxRecDepth 100000
set_option maxHeartbeats 2000000
theorem Zi (op:Nm) (a b:Int) (w:World):Calls Tryz.prog 11 #[str op,num a,num b] w (fun e w'=>jY (both op a b) e∧ae [] w w'):=by
 by_cases h : op∈allMarks
 ·simp only [allMarks,List.mem_cons,List.not_mem_nil,or_false] at h
  rcases h with rfl|rfl|rfl|rfl|rfl|rfl|rfl|rfl|rfl|rfl|rfl
  ·exact Yo a b w
  ·exact Yp a b w
  ·exact Yq a b w
  ·exact Yz a b w
  ·exact YA a b w
  ·exact Yr a b w
  ·exact Yt a b w
  ·exact Yu a b w
  ·exact Yv a b w
  ·exact Yw a b w
  ·exact Yx a b w
 ·have : both op a b=some 0:=by
   simp only [allMarks,List.mem_cons,List.not_mem_nil,or_false,not_or] at h;obtain⟨h0,h1,h2,h3,h4,h5,h6,h7,h8,h9,h10⟩:=h;simp only [both,h0,h1,h2,h3,h4,h5,h6,h7,h8,h9,h10,if_false,or_self]
  rw [this];exact Yy op h a b w
theorem yV {L:Lay} {d:Nat} {s:St} {ov:Value} {w:World} (h:Going w L d s ov):Calls Tryz.prog 115 #[ptr L.br] w (aj w L d ov [] (fun _ _ e=>e = .returned (.tuple #[])) (tick s)):=by
 have H:=zh h;have hb:=h.run;have c1:=hb.cell 1 _ rfl;have f1:=hb.frozen 1;cases hf : decide (s.fuel=0) with
 | true=>
  have hf0 : s.fuel=0:=of_decide_eq_true hf;have HF:=zh hf0;rw [hf0] at c1;have HS:=zh (Ay 5 w);clear h hb f1 hf hf0
  go_enter Tryz.func115,Tryz.ntmps115
  go_wp2_with fail;refine HS.out.mono ?_;rintro _ _ ⟨⟨older,ho,rfl⟩,hw⟩;have hw:=hw.symm;subst hw;go_wp2_with fail;refine⟨rfl,ov,dS.refl _ _,ae.refl _ _,?_⟩;rw [tick,if_pos HF.out];exact⟨⟨older,ho,rfl⟩,d,H.out⟩
 | false=>
  have hf1 : s.fuel≠0:=of_decide_eq_false hf;have hf2 : ((s.fuel:Int) == 0)=false:=by simpa using hf1
  have HF:=zh hf1;have hm:=h.most;clear h hb hf hf1
  go_enter Tryz.func115,Tryz.ntmps115
  go_wp2_with fail;refine bodyPost_end (results_none rfl _ _ _) rfl ?_;have hx:=H.out;have hset:=hx.run.set 1 (num ((s.fuel:Int) - 1));have hch:ae [L.br] w (w.setCell ⟨L.br,1,none⟩ (num ((s.fuel:Int) - 1))):=ae.set1 _ _ _ _;refine⟨ov,dS.refl _ _,hch.mono (fun x hx=>.inl (by simp at hx;subst hx;exact List.mem_append_right _ List.mem_cons_self)),?_⟩;rw [tick,if_neg HF.out];refine⟨rfl,hx.P8 hch ?_ hx.deep (by omega)⟩;have he : ((s.fuel:Int) - 1)=((s.fuel - 1:Nat):Int):=by have:=HF.out;omega
  rw [he] at hset
  simpa [he] using hset
theorem Gh (k:Int) (w:World):Calls Tryz.prog 139 #[ah,num k] w (fun e w'=>Aw 3 e∧w'=w):=by
 have HS:=zh (Ay 3 w);cases hk : decide (k < 0) with
 | true=>
  go_enter Tryz.func139,Tryz.ntmps139
  go_wp2_with fail;refine HS.out.mono ?_;rintro _ _ ⟨⟨older,ho,rfl⟩,hw⟩;have hw:=hw.symm;subst hw;go_wp2_with fail;exact⟨rfl,⟨older,ho,rfl⟩,rfl⟩
 | false=>
  have hk2 : decide ((0:Int)≤k)=true:=by simp at hk ⊢;omega
  go_enter Tryz.func139,Tryz.ntmps139
  go_wp2_with fail;refine HS.out.mono ?_;rintro _ _ ⟨⟨older,ho,rfl⟩,hw⟩;have hw:=hw.symm;subst hw;go_wp2_with fail;exact⟨rfl,⟨older,ho,rfl⟩,rfl⟩
theorem Gi (b n c:Nat) (_hn : n≤1000) (k:Int) (w:World):Calls Tryz.prog 139 #[.slice (some ⟨b,0,none⟩) n c,num k] w (fun e w'=>(if 0≤k∧k < n then e = .returned (.pointer (some ⟨b,k.toNat,none⟩)) else Aw 3 e)∧w'=w):=by
 have HS:=zh (Ay 3 w);cases hk : decide (k < 0) with
 | true=>
  have hk1 : ¬ (0≤k∧k < n):=by simp at hk;omega
  simp only [if_neg hk1];clear hk1
  go_enter Tryz.func139,Tryz.ntmps139
  go_wp2_with fail;refine HS.out.mono ?_;rintro _ _ ⟨⟨older,ho,rfl⟩,hw⟩;have hw:=hw.symm;subst hw;go_wp2_with fail;exact⟨rfl,⟨older,ho,rfl⟩,rfl⟩
 | false=>
  have hk0 : 0≤k:=by simpa using hk
  obtain⟨m,rfl⟩:=Int.eq_ofNat_of_zero_le hk0;cases hm : decide ((n:Int)≤(m:Int)) with
  | true=>
   have hk1 : ¬ (0≤(m:Int)∧(m:Int) < n):=by simp at hm;omega
   simp only [if_neg hk1];have p8 : n≤m:=by simp at hm;omega
   clear hk1
   go_enter Tryz.func139,Tryz.ntmps139
   go_wp2_with fail;refine HS.out.mono ?_;rintro _ _ ⟨⟨older,ho,rfl⟩,hw⟩;have hw:=hw.symm;subst hw;go_wp2_with fail;exact⟨rfl,⟨older,ho,rfl⟩,rfl⟩
  | false=>
   have p8 : m < n:=by simp at hm;omega
   have hk1 : 0≤(m:Int)∧(m:Int) < n:=⟨hk0,by omega⟩;simp only [if_pos hk1]
   go_enter Tryz.func139,Tryz.ntmps139
   go_wp2_with fail;go_ret
   exact⟨by simp,rfl⟩
end Go.Proofs.YtechofppmnnomaaGreatDoor
namespace Go.Mq.Run
open Go Go.RowKit Go.Mq Go.Mq.Tree
open Go.Mq.fo (aZ getM dB)
theorem aj.still {α:Type} {w w':World} {L:Lay} {d:Nat} {s:St} {ov:Value} {X:List Nat} {V:World→α→Ending→Prop} {a : α} {e:Ending} (h:Going w L d s ov) (hc:ae [] w w') (hV:V w' a e):aj w L d ov X V (.ok a s) e w':=
 ⟨ov,dS.refl _ _,hc.weak,hV,h.kept hc⟩
theorem aj.halted {α:Type} {w w':World} {L:Lay} {d:Nat} {s:St} {ov:Value} {X:List Nat} {V:World→α→Ending→Prop} {way:Nat} {e:Ending} (h:Going w L d s ov) (hc:ae [] w w') (hV:Aw way e):aj w L d ov X V (.stop way s:O α) e w':=
 ⟨ov,dS.refl _ _,hc.weak,hV,d,h.kept hc⟩
theorem yX {w0 w1:World} {ov aR:Value} {Z:List Nat} (hm:dS w1 ov aR) (hc:ae Z w0 w1):dS w0 ov aR:=fun g hg=>by
 rcases hm g hg with h|h
 ·exact .inl h
 ·exact .inr (by have:=hc.size;omega)
theorem aj.after {α:Type} {w0 w1 w':World} {L:Lay} {d:Nat} {ov:Value} {X:List Nat} {V:World→α→Ending→Prop} {o:O α} {e:Ending} (h:aj w1 L d ov X V o e w') (hc:ae [] w0 w1):aj w0 L d ov X V o e w':=by
 obtain⟨aR,hm,hch,h⟩:=h;exact⟨aR,yX hm hc,hc.weak.then hch,h⟩
end Go.Mq.Run
namespace Go.Proofs.YtechofppmnnomaaGreatDoor
open Go Go.RowKit Go.Mq Go.Mq.Tree Go.Mq.Run
open Go.Mq.fo (aZ getM dB jm jV mQ)
open Go.Mq.Check (fI cu bK dx)
set_option maxRecDepth 100000
set_option maxHeartbeats 2000000
theorem P9 (w:World) : (zeroValue 2).run Tryz.prog w = .ok (num 0) w:=by kernel_rfl
theorem Gj (w:World) : (zeroValue 41).run Tryz.prog w = .ok ah w:=by kernel_rfl
theorem rR (w:World) : (zeroValue 94).run Tryz.prog w = .ok aJ w:=by kernel_rfl
theorem Db {w:World} {ob:Option Nat} {fr:Fr} (h:eG w ob fr) (n:Nm) : (Instr.lookup 165 (.map ob) (str n) true).run Tryz.prog w = .ok (.tuple #[num ((eH fr n).getD 0),.bool (eH fr n).isSome]) w:=by
 rcases h with⟨rfl,rfl⟩|⟨b,rfl,h⟩
 ·have:=mQ (P:=Tryz.prog) Tryz.underlying165 Tryz.underlying9 (P9 w) n true
  rw [if_pos rfl] at this;exact this
 ·have:=jV (P:=Tryz.prog) Tryz.underlying165 Tryz.underlying9 (P9 w) h n
  rw [Yn] at this;cases hg : eH fr n <;> rw [hg] at this <;> exact this
theorem tQ {w:World} {L:Lay} {d:Nat} {s:St} {ov:Value} {q:Nm} {m:Mod} (h:Going w L d s ov) (hq:L.M q=some m) : ∃ (c0 c1 c2 c3 c4:Value) (bv:Nat),ag w (L.pb q) #[c0,c1,c2,c3,c4,.map (some bv)] 102∧L.Fix (L.pb q) ∧
  ∀ w' Z,ae Z w w'→(∀ x∈Z,¬ L.Fix x) → ∀ n,(Instr.lookup 99 (.map (some bv)) (str n) false).run Tryz.prog w' = .ok (match L.au q n with|some x=>.slice (some ⟨x.1,0,none⟩) x.2 x.2|none=>ah) w':=by
 obtain⟨_,bp,bR,_,_,_,_,hall⟩:=h.stat;have:=hall q;rw [hq] at this;obtain⟨_,hp1,_,ai,ci,av,cv,ap,cp,ab,cb,bv,es,h3,_,h5,h6,h7⟩:=this;refine⟨_,_,_,_,_,bv,h3,hp1,fun w' Z hc hZ n=>?_⟩;have hl:=jm (P:=Tryz.prog) Tryz.underlying99 Tryz.underlying9 (Gj w') (h6.kept hc fun hm=>hZ _ hm h5) n;rw [h7] at hl;rw [hl];cases L.au q n <;> rfl
theorem Gl {w:World} {L:Lay} {d:Nat} {s:St} {ov:Value} (h:Going w L d s ov) : ∃ (bp:Nat) (c1:Value),ag w L.bw #[.map (some bp),c1] 40∧L.Fix L.bw ∧
  ∀ w' Z,ae Z w w'→(∀ x∈Z,¬ L.Fix x) → ∀ q,(Instr.lookup 38 (.map (some bp)) (str q) false).run Tryz.prog w' = .ok (match L.M q with|some _=>ptr (L.pb q)|none=>aJ) w':=by
 obtain⟨h1,bp,bR,aR,h2,h3,h4,hall⟩:=h.stat;refine⟨bp,aR,h2,h1,fun w' Z hc hZ q=>?_⟩;have hl:=jm (P:=Tryz.prog) Tryz.underlying38 Tryz.underlying9 (rR w') (h4.kept hc fun hm=>hZ _ hm h3) q;have:=hall q;cases hq:L.M q with
 | none=>rw [hq] at this;simp only at this;rw [this] at hl;exact hl
 | some m=>rw [hq] at this;simp only at this;rw [this.1] at hl;exact hl
theorem Zj {L:Lay} {d:Nat} {q:Nm} {fr:Fr} {p:Nat} {n:Int} {s:St} {w:World} {ov:Value} {ob:Option Nat} {u:Value} (g:Nat) (h:Going w L d s ov) (hx:aY w L.Fix (.num p n) [u]) :
  Calls Tryz.prog 117 #[ptr L.br,ptr (L.pb q),.map ob,u] w (aj w L d ov [] (fun _ n e=>e = .returned (num n)) ((fns L.M (g + 1)).e d q fr (.num p n) s)):=by
 obtain⟨b,he,hF,hb⟩:=hx;cases he
 have H:=zh h;have hc0:ae [] w (w.alloc (.cells #[ptr b] 166)):=(ae.refl _ _).alloc _;have hb0:=hb.kept hc0 (by simp);have b0:=(ag.new w #[ptr b] 166).cell 0 _ rfl;have d0:=hb0.cell 0 _ rfl;have d2:=hb0.cell 2 _ rfl;have d3:=hb0.cell 3 _ rfl;have aF:=zh hc0;clear h hb hb0 hc0
 go_enter Tryz.func117,Tryz.ntmps117
 go_wp2_with fail;go_ret
 exact aj.still H.out aF.out rfl
theorem Zk {L:Lay} {d:Nat} {q:Nm} {fr:Fr} {p:Nat} {s:St} {w:World} {ov:Value} {ob:Option Nat} {u:Value} {n:Nm} {v:Int} (h:Going w L d s ov) (hfr:eG w ob fr) (hx:aY w L.Fix (.var p [] n) [u]) (hv : eH fr n=some v) :
  Calls Tryz.prog 117 #[ptr L.br,ptr (L.pb q),.map ob,u] w (aj w L d ov [] (fun _ n e=>e = .returned (num n)) (.ok v s)):=by
 obtain⟨b,he,hF,hb⟩:=hx;cases he
 obtain⟨wA,az⟩ : ∃ x,w.alloc (.cells #[ptr b] 166)=x:=⟨_,rfl⟩
 have hc0:ae [] w wA:=by rw [← az];exact(ae.refl _ _).alloc _
 have hb0:=hb.kept hc0 (by simp);have b0 : wA.cell? ⟨w.heap.size,0,none⟩=some (ptr b):=by rw [← az];exact(ag.new w #[ptr b] 166).cell 0 _ rfl
 have HX:=zh hb0;have d0:=hb0.cell 0 _ rfl;have d3:=hb0.cell 3 _ rfl;have d4:=hb0.cell 4 _ rfl;have aF:=zh hc0;have H:=zh (h.kept hc0);have cB:=zh (hfr.kept hc0 (by simp));have hl:=Db cB.out n;rw [hv] at hl;clear h hb hb0 hc0 hfr hv
 go_enter Tryz.func117,Tryz.ntmps117
 go_wp2_with fail;go_ret
 exact(aj.still H.out (ae.refl _ _) rfl).after aF.out
theorem Qa {w:World} {L:Lay} {d:Nat} {s:St} {ov:Value} (h:Going w L d s ov) {q n:Nm} {v:Int} {s':St} (hv : jv (s.vs q n) s' = .ok v s') : ∃ b k m,L.au q n=some (b,k)∧1≤k∧k≤1000∧L.M q=some m∧w.cell? ⟨b,0,none⟩=some (num v):=by
 have:=h.dyn q n;cases hd:L.au q n with
 | none=>rw [hd] at this;simp only at this;rw [this] at hv;cases hv
 | some x=>
  obtain⟨b,k⟩:=x;rw [hd] at this;obtain⟨l,h1,h2,h3⟩:=this;rw [h1] at hv;cases l with
  | nil=>cases hv
  | cons z l=>
   cases hv
   obtain⟨ha,hb1,hb2⟩:=h.lay.arr hd;cases hm:L.M q with
   | none=>have:=h.lay.there hd;rw [hm] at this;cases this
   | some m=>exact⟨b,k,m,rfl,hb1,hb2,rfl,h3.cell 0 _ rfl⟩
theorem Qb {l:Option (List Int)} {s:St} (h : jv l s ≠ .stuck) : ∃ v,jv l s = .ok v s:=by
 match l,h with
 | some (v :: _),_=>exact⟨v,rfl⟩
 | some [],h=>exact absurd rfl h
 | none,h=>exact absurd rfl h
theorem Zl {L:Lay} {d:Nat} {q:Nm} {fr:Fr} {p:Nat} {s:St} {w:World} {ov:Value} {ob:Option Nat} {u:Value} {n:Nm} {v:Int} (h:Going w L d s ov) (hfr:eG w ob fr) (hx:aY w L.Fix (.var p [] n) [u]) (hno : eH fr n=none) (hv : jv (s.vs q n) s = .ok v s) :
  Calls Tryz.prog 117 #[ptr L.br,ptr (L.pb q),.map ob,u] w (aj w L d ov [] (fun _ n e=>e = .returned (num n)) (.ok v s)):=by
 obtain⟨b,he,hF,hb⟩:=hx;cases he
 obtain⟨wA,az⟩ : ∃ x,w.alloc (.cells #[ptr b] 166)=x:=⟨_,rfl⟩
 have hc0:ae [] w wA:=by rw [← az];exact(ae.refl _ _).alloc _
 have hb0:=hb.kept hc0 (by simp);have b0 : wA.cell? ⟨w.heap.size,0,none⟩=some (ptr b):=by rw [← az];exact(ag.new w #[ptr b] 166).cell 0 _ rfl
 have HX:=zh hb0;have d0:=hb0.cell 0 _ rfl;have d3:=hb0.cell 3 _ rfl;have d4:=hb0.cell 4 _ rfl;have aF:=zh hc0;have H:=zh (h.kept hc0);have cB:=zh (hfr.kept hc0 (by simp));have hl:=Db cB.out n;rw [hno] at hl;obtain⟨bv,k,m',hd,hk1,hk2,hm,hcell⟩:=Qa H.out hv;obtain⟨c0,c1,c2,c3,c4,bm,hpb,il,hlk⟩:=tQ H.out hm;have p5:=hpb.cell 5 _ rfl;have hl2:=hlk wA.drew [] (ae.refl _ _).drew (by simp) n;rw [hd] at hl2;simp only at hl2;clear h hb hb0 hc0 hfr hno hv hlk hpb hd
 go_enter Tryz.func117,Tryz.ntmps117
 go_wp2_with fail
 go_region
 all_goals (try go_wp2_with fail)
 go_ret
 exact(aj.still H.out (ae.refl _ _).drew rfl).after aF.out
theorem Zm {L:Lay} {d:Nat} {q:Nm} {fr:Fr} {p:Nat} {s:St} {w:World} {ov:Value} {ob:Option Nat} {u:Value} {mm n:Nm} {v:Int} (h:Going w L d s ov) (hfr:eG w ob fr) (hx:aY w L.Fix (.var p mm n) [u]) (hmm : mm≠[]) (hv : jv (s.vs mm n) s = .ok v s) :
  Calls Tryz.prog 117 #[ptr L.br,ptr (L.pb q),.map ob,u] w (aj w L d ov [] (fun _ n e=>e = .returned (num n)) (.ok v s)):=by
 obtain⟨b,he,hF,hb⟩:=hx;cases he
 obtain⟨wA,az⟩ : ∃ x,w.alloc (.cells #[ptr b] 166)=x:=⟨_,rfl⟩
 have hc0:ae [] w wA:=by rw [← az];exact(ae.refl _ _).alloc _
 have hb0:=hb.kept hc0 (by simp);have b0 : wA.cell? ⟨w.heap.size,0,none⟩=some (ptr b):=by rw [← az];exact(ag.new w #[ptr b] 166).cell 0 _ rfl
 have HX:=zh hb0;have d0:=hb0.cell 0 _ rfl;have d3:=hb0.cell 3 _ rfl;have d4:=hb0.cell 4 _ rfl;have aF:=zh hc0;have H:=zh (h.kept hc0);have cB:=zh (hfr.kept hc0 (by simp));have r0:=H.out.run.cell 0 _ rfl;obtain⟨bp,J9,hwb,hwf,jw⟩:=Gl H.out;have w0:=hwb.cell 0 _ rfl;have hl0:=jw wA.drew [] (ae.refl _ _).drew (by simp) mm;have hl:=Db (cB.out.kept (ae.refl [] wA).drew (by simp)) n;obtain⟨bv,k,m',hd,hk1,hk2,hm,hcell⟩:=Qa H.out hv;rw [hm] at hl0;simp only at hl0;obtain⟨c0,c1,c2,c3,c4,bm,hpb,il,hlk⟩:=tQ H.out hm;have p5:=hpb.cell 5 _ rfl;have hl2:=hlk wA.drew.drew [] (ae.refl _ _).drew.drew (by simp) n;rw [hd] at hl2;simp only at hl2;have hm1 : (mm == [])=false:=by simpa using hmm
 have hm2 : (mm != [])=true:=by simpa using hmm
 obtain⟨gv,hgv⟩ : ∃ x,x=(eH fr n).getD 0:=⟨_,rfl⟩
 obtain⟨gb,hgb⟩ : ∃ x,x=(eH fr n).isSome:=⟨_,rfl⟩
 rw [← hgv,← hgb] at hl;clear h hb hb0 hc0 hfr hv hlk hpb hd jw hwb hmm hgv hgb;cases gb with
 | true=>
  go_enter Tryz.func117,Tryz.ntmps117
  go_wp2_with fail
  go_region
  all_goals (try go_wp2_with fail)
  go_region
  all_goals (try go_wp2_with fail)
  go_ret
  exact(aj.still H.out (ae.refl _ _).drew.drew rfl).after aF.out
 | false=>
  go_enter Tryz.func117,Tryz.ntmps117
  go_wp2_with fail
  go_region
  all_goals (try go_wp2_with fail)
  go_region
  all_goals (try go_wp2_with fail)
  go_ret
  exact(aj.still H.out (ae.refl _ _).drew.drew rfl).after aF.out
end Go.Proofs.YtechofppmnnomaaGreatDoor
namespace Go.Mq.Run
open Go Go.RowKit Go.Mq Go.Mq.Tree
theorem aj.done {α:Type} {w w1 w':World} {L:Lay} {d:Nat} {s':St} {ov aR:Value} {X:List Nat} {V:World→α→Ending→Prop} {a : α} {e:Ending} (hm:dS w ov aR) (hc:ae (aL L ov) w w1) (h:Going w1 L d s' aR) (hc2:ae [] w1 w') (hV:V w' a e):aj w L d ov X V (.ok a s') e w':=
 ⟨aR,hm,(hc.then hc2.weak).mono (fun x hx=>.inl (List.mem_append_right _ hx)),hV,h.kept hc2⟩
theorem aj.ended {α:Type} {w w1 w':World} {L:Lay} {d d':Nat} {s':St} {ov aR:Value} {X:List Nat} {V:World→α→Ending→Prop} {way:Nat} {e:Ending} (hm:dS w ov aR) (hc:ae (aL L ov) w w1) (h:Going w1 L d' s' aR) (hc2:ae [] w1 w') (hV:Aw way e):aj w L d ov X V (.stop way s':O α) e w':=
 ⟨aR,hm,(hc.then hc2.weak).mono (fun x hx=>.inl (List.mem_append_right _ hx)),hV,d',h.kept hc2⟩
theorem aj.then {α:Type} {w w1 w':World} {L:Lay} {d:Nat} {ov aR:Value} {X:List Nat} {V:World→α→Ending→Prop} {o:O α} {e:Ending} (hm:dS w ov aR) (hc:ae (aL L ov) w w1) (h:aj w1 L d aR X V o e w'):aj w L d ov X V o e w':=by
 obtain⟨bU,hm2,hc2,h⟩:=h;refine⟨bU,hm.trans hc hm2,(hc.mono (fun x hx=>.inl (List.mem_append_right _ hx))).trans hc2 (fun x hx=>?_),h⟩;rcases List.mem_append.1 hx with hx|hx
 ·exact .inl (List.mem_append_left _ hx)
 ·rcases FX hc hm x hx with h|h
  ·exact .inl (List.mem_append_right _ h)
  ·exact .inr h
end Go.Mq.Run
namespace Go.Proofs.YtechofppmnnomaaGreatDoor
open Go Go.RowKit Go.Mq Go.Mq.Tree Go.Mq.Run
open Go.Mq.fo (aZ getM dB jm jV mQ)
open Go.Mq.Check (fI cu bK dx)
set_option maxRecDepth 100000
set_option maxHeartbeats 2000000
theorem Zn (g:Nat) (hE:jd g) {L:Lay} {d:Nat} {q:Nm} {fr:Fr} {p:Nat} {s:St} {w:World} {ov:Value} {ob:Option Nat} {u:Value} {m:Mod} {op:Nm} {x:E} (h:Going w L d s ov) (hq:L.M q=some m) (hfr:eG w ob fr) (hx:aY w L.Fix (.un p op x) [u]) (hfe:bK x) (ho : (fns L.M (g + 1)).e d q fr (.un p op x) s ≠ .stuck) :
  Calls Tryz.prog 117 #[ptr L.br,ptr (L.pb q),.map ob,u] w (aj w L d ov [] (fun _ n e=>e = .returned (num n)) ((fns L.M (g + 1)).e d q fr (.un p op x) s)):=by
 obtain⟨b,ul,he,hF,hb,hxl⟩:=hx;cases he
 obtain⟨wA,az⟩ : ∃ x,w.alloc (.cells #[ptr b] 166)=x:=⟨_,rfl⟩
 have hc0:ae [] w wA:=by rw [← az];exact(ae.refl _ _).alloc _
 have hb0:=hb.kept hc0 (by simp);have hbx:ag wA w.heap.size #[ptr b] 166:=by rw [← az];exact ag.new w #[ptr b] 166
 have b0:=hbx.cell 0 _ rfl;have HX:=zh hb0;have gJ:=zh hbx;have HF:=zh hF;have d0:=hb0.cell 0 _ rfl;have d3:=hb0.cell 3 _ rfl;have d5:=hb0.cell 5 _ rfl;have d6:=hb0.cell 6 _ rfl;have aF:=zh hc0;have H:=zh (h.kept hc0);have cB:=zh (hfr.kept hc0 (by simp));obtain⟨tgt,ht⟩ : ∃ o,o=(fns L.M (g + 1)).e d q fr (.un p op x) s:=⟨_,rfl⟩
 have ht2 : tgt=((fns L.M g).e d q fr x s).bind (fun n s=>.ok (if op=[45] then wr (-n) else one (n == 0)) s):=ht;rw [← ht] at ho ⊢;have bS:=zh (hE H.out hq cB.out (hxl.kept hc0 (by simp)) hfe (fun hs=>ho (by rw [ht2,hs];rfl)));clear h hb hb0 hc0 hfr hxl hbx ht;cases hr : (fns L.M g).e d q fr x s with
 | stuck=>exact absurd (by rw [ht2,hr];rfl) ho
 | stop way s'=>
  rw [hr] at bS;have HT:=zh (show tgt = .stop way s' by rw [ht2,hr];rfl);clear hr ht2 ho
  go_enter Tryz.func117,Tryz.ntmps117
  go_wp2_with fail;refine bS.out.mono ?_;rintro e w1 ⟨aR,hm,hc,⟨older,hol,rfl⟩,d',hg⟩;have HM:=zh hm;have HC:=zh hc;have HG:=zh hg;clear hm hc hg;go_wp2_with fail;refine⟨rfl,?_⟩;rw [HT.out];exact aj.after (aj.ended HM.out HC.out HG.out (ae.refl _ _) ⟨older,hol,rfl⟩) aF.out
 | ok v s'=>
  rw [hr] at bS;by_cases hop : op=[45]
  ·have HT:=zh (show tgt = .ok (wr (-v)) s' by rw [ht2,hr,O.bind,if_pos hop])
   clear hr ht2 ho;subst hop
   go_enter Tryz.func117,Tryz.ntmps117
   go_wp2_with fail;refine bS.out.mono ?_;rintro e w1 ⟨aR,hm,hc,rfl,hg⟩;have hnx : b∉aL L ov:=fun hm=>H.out.dz b hm HF.out
   have b0':=hc.aH b0 (by simpa using H.out.gQ gJ.out (by decide) (by decide));have xh:=hc.aH d5 (by simpa using hnx);have HM:=zh hm;have HC:=zh hc;have HG:=zh hg;clear hm hc hg hnx b0 d5 d0 d3 d6;go_wp2_with fail;go_ret
   rw [HT.out];exact aj.after (aj.done HM.out HC.out HG.out (ae.refl _ _) rfl) aF.out
  ·have HT:=zh (show tgt = .ok (one (v == 0)) s' by rw [ht2,hr,O.bind,if_neg hop])
   have Gn : (op == [45])=false:=by simpa using hop
   have HO:=zh (fun w=>qQ (v == 0) w);clear hop hr ht2 ho
   go_enter Tryz.func117,Tryz.ntmps117
   go_wp2_with fail;refine bS.out.mono ?_;rintro e w1 ⟨aR,hm,hc,rfl,hg⟩;have hnx : b∉aL L ov:=fun hm=>H.out.dz b hm HF.out
   have b0':=hc.aH b0 (by simpa using H.out.gQ gJ.out (by decide) (by decide));have xh:=hc.aH d5 (by simpa using hnx);have HM:=zh hm;have HC:=zh hc;have HG:=zh hg;clear hm hc hg hnx b0 d5 d0 d3 d6;go_wp2_with fail;refine(HO.out w1).mono ?_;rintro _ _ ⟨rfl,hw⟩;have hw:=hw.symm;subst hw;go_wp2_with fail;go_ret
   rw [HT.out];exact aj.after (aj.done HM.out HC.out HG.out (ae.refl _ _) rfl) aF.out
end Go.Proofs.YtechofppmnnomaaGreatDoor
namespace Go.Proofs.YtechofppmnnomaaGreatDoor
open Go Go.RowKit Go.Mq Go.Mq.Tree Go.Mq.Run
open Go.Mq.Check (fI cu bK dx)
set_option maxRecDepth 100000
set_option maxHeartbeats 4000000
theorem Zo (g:Nat) (hE:jd g) {L:Lay} {d:Nat} {q:Nm} {fr:Fr} {p:Nat} {s:St} {w:World} {ov:Value} {ob:Option Nat} {u:Value} {m:Mod} {x y:E} (h:Going w L d s ov) (hq:L.M q=some m) (hfr:eG w ob fr) (hx:aY w L.Fix (.bin p [97,110,100] x y) [u]) (hfe:bK x∧bK y) (ho : (fns L.M (g + 1)).e d q fr (.bin p [97,110,100] x y) s ≠ .stuck) :
  Calls Tryz.prog 117 #[ptr L.br,ptr (L.pb q),.map ob,u] w (aj w L d ov [] (fun _ n e=>e = .returned (num n)) ((fns L.M (g + 1)).e d q fr (.bin p [97,110,100] x y) s)):=by
 obtain⟨b,ul,ur,he,hF,hb,hxl,hyl⟩:=hx;cases he
 obtain⟨wA,az⟩ : ∃ x,w.alloc (.cells #[ptr b] 166)=x:=⟨_,rfl⟩
 have hc0:ae [] w wA:=by rw [← az];exact(ae.refl _ _).alloc _
 have hb0:=hb.kept hc0 (by simp);have hbx:ag wA w.heap.size #[ptr b] 166:=by rw [← az];exact ag.new w #[ptr b] 166
 have b0:=hbx.cell 0 _ rfl;have HX:=zh hb0;have gJ:=zh hbx;have HF:=zh hF;have d0:=hb0.cell 0 _ rfl;have d3:=hb0.cell 3 _ rfl;have d5:=hb0.cell 5 _ rfl;have d6:=hb0.cell 6 _ rfl;have aF:=zh hc0;have H:=zh (h.kept hc0);have cB:=zh (hfr.kept hc0 (by simp));obtain⟨tgt,ht⟩ : ∃ o,o=(fns L.M (g + 1)).e d q fr (.bin p [97,110,100] x y) s:=⟨_,rfl⟩
 have ht2 : tgt=((fns L.M g).e d q fr x s).bind (fun a s=>if [97,110,100]=[97,110,100]∨[97,110,100]=[111,114] then
    if (a != 0)=decide ([97,110,100]=[111,114]) then .ok (one (a != 0)) s else ((fns L.M g).e d q fr y s).bind fun b s=>.ok (one (b != 0)) s
   else ((fns L.M g).e d q fr y s).bind fun b s=>match both [97,110,100] a b with
    | some n=>.ok n s
    | none=>.stop 2 s):=ht
 rw [← ht] at ho ⊢;have bS:=zh (hE H.out hq cB.out (hxl.kept hc0 (by simp)) hfe.1 (fun hs=>ho (by rw [ht2,hs];rfl)));have yY:=zh (hyl.kept hc0 (by simp));have HQ:=zh hq;have iE:=zh hfe.2;clear h hb hb0 hc0 hfr hxl hyl hbx ht hq hfe;cases hr : (fns L.M g).e d q fr x s with
 | stuck=>exact absurd (by rw [ht2,hr];rfl) ho
 | stop way s'=>
  rw [hr] at bS;have HT:=zh (show tgt = .stop way s' by rw [ht2,hr];rfl);clear hr ht2 ho
  go_enter Tryz.func117,Tryz.ntmps117
  go_wp2_with fail;refine bS.out.mono ?_;rintro e w1 ⟨aR,hm,hc,⟨older,hol,rfl⟩,d',hg⟩;have HM:=zh hm;have HC:=zh hc;have HG:=zh hg;clear hm hc hg;go_wp2_with fail;refine⟨rfl,?_⟩;rw [HT.out];exact aj.after (aj.ended HM.out HC.out HG.out (ae.refl _ _) ⟨older,hol,rfl⟩) aF.out
 | ok v s'=>
  rw [hr] at bS;rw [hr] at ht2;have HR:=zh hr;clear hr;cases hsh : (v == 0) with
  | true=>
   have t1 : (v != 0)=false:=by simpa using hsh
   have t2 : decide (v=0)=true:=by simpa using hsh
   have HT:=zh (show tgt = .ok (one false) s' by rw [ht2,O.bind,if_pos (by decide),if_pos (by simpa using hsh),t1]);have HO:=zh (fun w=>qQ false w);clear ht2 ho hsh
   go_enter Tryz.func117,Tryz.ntmps117
   go_wp2_with fail;refine bS.out.mono ?_;rintro e w1 ⟨aR,hm,hc,rfl,hg⟩;have hnb : w.heap.size∉aL L ov:=H.out.gQ gJ.out (by decide) (by decide);have hnx : b∉aL L ov:=fun hm=>H.out.dz b hm HF.out
   have oL:=zh (lH (L:=L) hm gJ.out.lt hnb);have eZ:=zh (lH (L:=L) hm HX.out.lt hnx);have fK:=zh (HX.out.kept hc (by simpa using hnx));have dn:=zh (gJ.out.kept hc (by simpa using hnb));have fq:=zh (cB.out.kept hc (by simpa using cB.out.iC H.out));have yZ:=zh (yY.out.kept hc (by simpa using H.out.dz));have HM:=zh hm;have HC:=zh hc;have HG:=zh hg;have b0':=dn.out.cell 0 _ rfl;have xh:=fK.out.cell 5 _ rfl;have AO:=fK.out.cell 7 _ rfl;clear hm hc hg hnx hnb b0 d5 d0 d3 d6 az;go_wp2_with fail;refine(HO.out w1).mono ?_;rintro _ _ ⟨rfl,hw⟩;have hw:=hw.symm;subst hw;go_wp2_with fail;go_ret
   rw [HT.out];exact aj.after (aj.done HM.out HC.out HG.out (ae.refl _ _) rfl) aF.out
  | false=>
   have ht3 : tgt=((fns L.M g).e d q fr y s').bind fun b s=>.ok (one (b != 0)) s:=by rw [ht2,O.bind,if_pos (by decide),if_neg (by simpa using hsh)]
   have t1 : (v != 0)=true:=by simpa using hsh
   have t2 : decide (v=0)=false:=by simpa using hsh
   clear ht2 hsh
   go_enter Tryz.func117,Tryz.ntmps117
   go_wp2_with fail;refine bS.out.mono ?_;rintro e w1 ⟨aR,hm,hc,rfl,hg⟩;have hnb : w.heap.size∉aL L ov:=H.out.gQ gJ.out (by decide) (by decide);have hnx : b∉aL L ov:=fun hm=>H.out.dz b hm HF.out
   have oL:=zh (lH (L:=L) hm gJ.out.lt hnb);have eZ:=zh (lH (L:=L) hm HX.out.lt hnx);have fK:=zh (HX.out.kept hc (by simpa using hnx));have dn:=zh (gJ.out.kept hc (by simpa using hnb));have fq:=zh (cB.out.kept hc (by simpa using cB.out.iC H.out));have yZ:=zh (yY.out.kept hc (by simpa using H.out.dz));have HM:=zh hm;have HC:=zh hc;have HG:=zh hg;have b0':=dn.out.cell 0 _ rfl;have xh:=fK.out.cell 5 _ rfl;have AO:=fK.out.cell 7 _ rfl;clear hm hc hg hnx hnb b0 d5 d0 d3 d6 az;have oN:=zh (hE HG.out HQ.out fq.out yZ.out iE.out (fun hs=>ho (by rw [ht3,hs];rfl)));cases hr2 : (fns L.M g).e d q fr y s' with
   | stuck=>exact absurd (by rw [ht3,hr2];rfl) ho
   | stop way s2=>
    rw [hr2] at oN;have HT:=zh (show tgt = .stop way s2 by rw [ht3,hr2];rfl);clear hr2 ht3 ho;go_wp2_with fail;refine oN.out.mono ?_;rintro e w2 ⟨bU,hm,hc,⟨older,hol,rfl⟩,d',hg⟩;have bD:=zh hm;have aD:=zh hc;have HG2:=zh hg;clear hm hc hg;go_wp2_with fail;refine⟨rfl,?_⟩;rw [HT.out];exact aj.after (aj.then HM.out HC.out (aj.ended bD.out aD.out HG2.out (ae.refl _ _) ⟨older,hol,rfl⟩)) aF.out
   | ok v2 s2=>
    rw [hr2] at oN;have HT:=zh (show tgt = .ok (one (v2 != 0)) s2 by rw [ht3,hr2];rfl);have HO:=zh (fun w=>qQ (v2 != 0) w);clear hr2 ht3 ho;go_wp2_with fail;refine oN.out.mono ?_;rintro e w2 ⟨bU,hm,hc,rfl,hg⟩;have bD:=zh hm;have aD:=zh hc;have HG2:=zh hg;clear hm hc hg;go_wp2_with fail;refine(HO.out w2).mono ?_;rintro _ _ ⟨rfl,hw⟩;have hw:=hw.symm;subst hw;go_wp2_with fail;go_ret
    rw [HT.out];exact aj.after (aj.then HM.out HC.out (aj.done bD.out aD.out HG2.out (ae.refl _ _) rfl)) aF.out
theorem Zp (g:Nat) (hE:jd g) {L:Lay} {d:Nat} {q:Nm} {fr:Fr} {p:Nat} {s:St} {w:World} {ov:Value} {ob:Option Nat} {u:Value} {m:Mod} {x y:E} (h:Going w L d s ov) (hq:L.M q=some m) (hfr:eG w ob fr) (hx:aY w L.Fix (.bin p [111,114] x y) [u]) (hfe:bK x∧bK y) (ho : (fns L.M (g + 1)).e d q fr (.bin p [111,114] x y) s ≠ .stuck) :
  Calls Tryz.prog 117 #[ptr L.br,ptr (L.pb q),.map ob,u] w (aj w L d ov [] (fun _ n e=>e = .returned (num n)) ((fns L.M (g + 1)).e d q fr (.bin p [111,114] x y) s)):=by
 obtain⟨b,ul,ur,he,hF,hb,hxl,hyl⟩:=hx;cases he
 obtain⟨wA,az⟩ : ∃ x,w.alloc (.cells #[ptr b] 166)=x:=⟨_,rfl⟩
 have hc0:ae [] w wA:=by rw [← az];exact(ae.refl _ _).alloc _
 have hb0:=hb.kept hc0 (by simp);have hbx:ag wA w.heap.size #[ptr b] 166:=by rw [← az];exact ag.new w #[ptr b] 166
 have b0:=hbx.cell 0 _ rfl;have HX:=zh hb0;have gJ:=zh hbx;have HF:=zh hF;have d0:=hb0.cell 0 _ rfl;have d3:=hb0.cell 3 _ rfl;have d5:=hb0.cell 5 _ rfl;have d6:=hb0.cell 6 _ rfl;have aF:=zh hc0;have H:=zh (h.kept hc0);have cB:=zh (hfr.kept hc0 (by simp));obtain⟨tgt,ht⟩ : ∃ o,o=(fns L.M (g + 1)).e d q fr (.bin p [111,114] x y) s:=⟨_,rfl⟩
 have ht2 : tgt=((fns L.M g).e d q fr x s).bind (fun a s=>if [111,114]=[97,110,100]∨[111,114]=[111,114] then
    if (a != 0)=decide ([111,114]=[111,114]) then .ok (one (a != 0)) s else ((fns L.M g).e d q fr y s).bind fun b s=>.ok (one (b != 0)) s
   else ((fns L.M g).e d q fr y s).bind fun b s=>match both [111,114] a b with
    | some n=>.ok n s
    | none=>.stop 2 s):=ht
 rw [← ht] at ho ⊢;have bS:=zh (hE H.out hq cB.out (hxl.kept hc0 (by simp)) hfe.1 (fun hs=>ho (by rw [ht2,hs];rfl)));have yY:=zh (hyl.kept hc0 (by simp));have HQ:=zh hq;have iE:=zh hfe.2;clear h hb hb0 hc0 hfr hxl hyl hbx ht hq hfe;cases hr : (fns L.M g).e d q fr x s with
 | stuck=>exact absurd (by rw [ht2,hr];rfl) ho
 | stop way s'=>
  rw [hr] at bS;have HT:=zh (show tgt = .stop way s' by rw [ht2,hr];rfl);clear hr ht2 ho
  go_enter Tryz.func117,Tryz.ntmps117
  go_wp2_with fail;refine bS.out.mono ?_;rintro e w1 ⟨aR,hm,hc,⟨older,hol,rfl⟩,d',hg⟩;have HM:=zh hm;have HC:=zh hc;have HG:=zh hg;clear hm hc hg;go_wp2_with fail;refine⟨rfl,?_⟩;rw [HT.out];exact aj.after (aj.ended HM.out HC.out HG.out (ae.refl _ _) ⟨older,hol,rfl⟩) aF.out
 | ok v s'=>
  rw [hr] at bS;rw [hr] at ht2;have HR:=zh hr;clear hr;cases hsh : (v != 0) with
  | true=>
   have t1 : (v != 0)=true:=hsh;have HT:=zh (show tgt = .ok (one true) s' by rw [ht2,O.bind,if_pos (by decide),if_pos (by simpa using hsh),t1]);have HO:=zh (fun w=>qQ true w);clear ht2 ho hsh
   go_enter Tryz.func117,Tryz.ntmps117
   go_wp2_with fail;refine bS.out.mono ?_;rintro e w1 ⟨aR,hm,hc,rfl,hg⟩;have hnb : w.heap.size∉aL L ov:=H.out.gQ gJ.out (by decide) (by decide);have hnx : b∉aL L ov:=fun hm=>H.out.dz b hm HF.out
   have oL:=zh (lH (L:=L) hm gJ.out.lt hnb);have eZ:=zh (lH (L:=L) hm HX.out.lt hnx);have fK:=zh (HX.out.kept hc (by simpa using hnx));have dn:=zh (gJ.out.kept hc (by simpa using hnb));have fq:=zh (cB.out.kept hc (by simpa using cB.out.iC H.out));have yZ:=zh (yY.out.kept hc (by simpa using H.out.dz));have HM:=zh hm;have HC:=zh hc;have HG:=zh hg;have b0':=dn.out.cell 0 _ rfl;have xh:=fK.out.cell 5 _ rfl;have AO:=fK.out.cell 7 _ rfl;clear hm hc hg hnx hnb b0 d5 d0 d3 d6 az;go_wp2_with fail;refine(HO.out w1).mono ?_;rintro _ _ ⟨rfl,hw⟩;have hw:=hw.symm;subst hw;go_wp2_with fail;go_ret
   rw [HT.out];exact aj.after (aj.done HM.out HC.out HG.out (ae.refl _ _) rfl) aF.out
  | false=>
   have ht3 : tgt=((fns L.M g).e d q fr y s').bind fun b s=>.ok (one (b != 0)) s:=by rw [ht2,O.bind,if_pos (by decide),if_neg (by simpa using hsh)]
   have t1 : (v != 0)=false:=hsh;clear ht2 hsh
   go_enter Tryz.func117,Tryz.ntmps117
   go_wp2_with fail;refine bS.out.mono ?_;rintro e w1 ⟨aR,hm,hc,rfl,hg⟩;have hnb : w.heap.size∉aL L ov:=H.out.gQ gJ.out (by decide) (by decide);have hnx : b∉aL L ov:=fun hm=>H.out.dz b hm HF.out
   have oL:=zh (lH (L:=L) hm gJ.out.lt hnb);have eZ:=zh (lH (L:=L) hm HX.out.lt hnx);have fK:=zh (HX.out.kept hc (by simpa using hnx));have dn:=zh (gJ.out.kept hc (by simpa using hnb));have fq:=zh (cB.out.kept hc (by simpa using cB.out.iC H.out));have yZ:=zh (yY.out.kept hc (by simpa using H.out.dz));have HM:=zh hm;have HC:=zh hc;have HG:=zh hg;have b0':=dn.out.cell 0 _ rfl;have xh:=fK.out.cell 5 _ rfl;have AO:=fK.out.cell 7 _ rfl;clear hm hc hg hnx hnb b0 d5 d0 d3 d6 az;have oN:=zh (hE HG.out HQ.out fq.out yZ.out iE.out (fun hs=>ho (by rw [ht3,hs];rfl)));cases hr2 : (fns L.M g).e d q fr y s' with
   | stuck=>exact absurd (by rw [ht3,hr2];rfl) ho
   | stop way s2=>
    rw [hr2] at oN;have HT:=zh (show tgt = .stop way s2 by rw [ht3,hr2];rfl);clear hr2 ht3 ho;go_wp2_with fail;refine oN.out.mono ?_;rintro e w2 ⟨bU,hm,hc,⟨older,hol,rfl⟩,d',hg⟩;have bD:=zh hm;have aD:=zh hc;have HG2:=zh hg;clear hm hc hg;go_wp2_with fail;refine⟨rfl,?_⟩;rw [HT.out];exact aj.after (aj.then HM.out HC.out (aj.ended bD.out aD.out HG2.out (ae.refl _ _) ⟨older,hol,rfl⟩)) aF.out
   | ok v2 s2=>
    rw [hr2] at oN;have HT:=zh (show tgt = .ok (one (v2 != 0)) s2 by rw [ht3,hr2];rfl);have HO:=zh (fun w=>qQ (v2 != 0) w);clear hr2 ht3 ho;go_wp2_with fail;refine oN.out.mono ?_;rintro e w2 ⟨bU,hm,hc,rfl,hg⟩;have bD:=zh hm;have aD:=zh hc;have HG2:=zh hg;clear hm hc hg;go_wp2_with fail;refine(HO.out w2).mono ?_;rintro _ _ ⟨rfl,hw⟩;have hw:=hw.symm;subst hw;go_wp2_with fail;go_ret
    rw [HT.out];exact aj.after (aj.then HM.out HC.out (aj.done bD.out aD.out HG2.out (ae.refl _ _) rfl)) aF.out
theorem Zq (g:Nat) (hE:jd g) {L:Lay} {d:Nat} {q:Nm} {fr:Fr} {p:Nat} {s:St} {w:World} {ov:Value} {ob:Option Nat} {u:Value} {m:Mod} {op:Nm} {x y:E} (h:Going w L d s ov) (hq:L.M q=some m) (hfr:eG w ob fr) (hx:aY w L.Fix (.bin p op x y) [u]) (hfe:bK x∧bK y) (Gn : op≠[97,110,100]) (Ka : op≠[111,114]) (ho : (fns L.M (g + 1)).e d q fr (.bin p op x y) s ≠ .stuck) :
  Calls Tryz.prog 117 #[ptr L.br,ptr (L.pb q),.map ob,u] w (aj w L d ov [] (fun _ n e=>e = .returned (num n)) ((fns L.M (g + 1)).e d q fr (.bin p op x y) s)):=by
 obtain⟨b,ul,ur,he,hF,hb,hxl,hyl⟩:=hx;cases he
 obtain⟨wA,az⟩ : ∃ x,w.alloc (.cells #[ptr b] 166)=x:=⟨_,rfl⟩
 have hc0:ae [] w wA:=by rw [← az];exact(ae.refl _ _).alloc _
 have hb0:=hb.kept hc0 (by simp);have hbx:ag wA w.heap.size #[ptr b] 166:=by rw [← az];exact ag.new w #[ptr b] 166
 have b0:=hbx.cell 0 _ rfl;have HX:=zh hb0;have gJ:=zh hbx;have HF:=zh hF;have d0:=hb0.cell 0 _ rfl;have d3:=hb0.cell 3 _ rfl;have d5:=hb0.cell 5 _ rfl;have d6:=hb0.cell 6 _ rfl;have aF:=zh hc0;have H:=zh (h.kept hc0);have cB:=zh (hfr.kept hc0 (by simp));obtain⟨tgt,ht⟩ : ∃ o,o=(fns L.M (g + 1)).e d q fr (.bin p op x y) s:=⟨_,rfl⟩
 have ht2 : tgt=((fns L.M g).e d q fr x s).bind (fun a s=>if op=[97,110,100]∨op=[111,114] then
    if (a != 0)=decide (op=[111,114]) then .ok (one (a != 0)) s else ((fns L.M g).e d q fr y s).bind fun b s=>.ok (one (b != 0)) s
   else ((fns L.M g).e d q fr y s).bind fun b s=>match both op a b with
    | some n=>.ok n s
    | none=>.stop 2 s):=ht
 rw [← ht] at ho ⊢;have bS:=zh (hE H.out hq cB.out (hxl.kept hc0 (by simp)) hfe.1 (fun hs=>ho (by rw [ht2,hs];rfl)));have yY:=zh (hyl.kept hc0 (by simp));have HQ:=zh hq;have iE:=zh hfe.2;clear h hb hb0 hc0 hfr hxl hyl hbx ht hq hfe;cases hr : (fns L.M g).e d q fr x s with
 | stuck=>exact absurd (by rw [ht2,hr];rfl) ho
 | stop way s'=>
  rw [hr] at bS;have HT:=zh (show tgt = .stop way s' by rw [ht2,hr];rfl);clear hr ht2 ho
  go_enter Tryz.func117,Tryz.ntmps117
  go_wp2_with fail;refine bS.out.mono ?_;rintro e w1 ⟨aR,hm,hc,⟨older,hol,rfl⟩,d',hg⟩;have HM:=zh hm;have HC:=zh hc;have HG:=zh hg;clear hm hc hg;go_wp2_with fail;refine⟨rfl,?_⟩;rw [HT.out];exact aj.after (aj.ended HM.out HC.out HG.out (ae.refl _ _) ⟨older,hol,rfl⟩) aF.out
 | ok v s'=>
  rw [hr] at bS;rw [hr] at ht2;have HR:=zh hr;clear hr;have hcond : ¬ (op=[97,110,100]∨op=[111,114]):=fun hh=>hh.elim Gn Ka
  have ht3 : tgt=((fns L.M g).e d q fr y s').bind fun b s=>match both op v b with
    | some n=>.ok n s
    | none=>.stop 2 s:=by rw [ht2,O.bind,if_neg hcond]
  have k1 : (op == [97,110,100])=false:=by simpa using Gn
  have k2 : (op == [111,114])=false:=by simpa using Ka
  clear ht2 hcond Gn Ka
  go_enter Tryz.func117,Tryz.ntmps117
  go_wp2_with fail;refine bS.out.mono ?_;rintro e w1 ⟨aR,hm,hc,rfl,hg⟩;have hnb : w.heap.size∉aL L ov:=H.out.gQ gJ.out (by decide) (by decide);have hnx : b∉aL L ov:=fun hm=>H.out.dz b hm HF.out
  have oL:=zh (lH (L:=L) hm gJ.out.lt hnb);have eZ:=zh (lH (L:=L) hm HX.out.lt hnx);have fK:=zh (HX.out.kept hc (by simpa using hnx));have dn:=zh (gJ.out.kept hc (by simpa using hnb));have fq:=zh (cB.out.kept hc (by simpa using cB.out.iC H.out));have yZ:=zh (yY.out.kept hc (by simpa using H.out.dz));have HM:=zh hm;have HC:=zh hc;have HG:=zh hg;have b0':=dn.out.cell 0 _ rfl;have xh:=fK.out.cell 5 _ rfl;have AO:=fK.out.cell 7 _ rfl;clear hm hc hg hnx hnb b0 d5 d0 d3 d6 az;obtain⟨wD,aI⟩ : ∃ x,x=w1.drew:=⟨_,rfl⟩
  have bz:ae [] w1 wD:=by rw [aI];exact(ae.refl [] w1).drew
  have dL:=zh bz;have oN:=zh (hE (HG.out.kept bz) HQ.out (fq.out.kept bz (by simp)) (yZ.out.kept bz (by simp)) iE.out (fun hs=>ho (by rw [ht3,hs];rfl)));have q0:=(dn.out.kept bz (by simp)).cell 0 _ rfl;have q5:=(fK.out.kept bz (by simp)).cell 5 _ rfl;have q7:=(fK.out.kept bz (by simp)).cell 7 _ rfl;have Z1:=zh (bZ.of (X:=aL L aR) q0 oL.out);have Z2:=zh (bZ.of (X:=aL L aR) q5 eZ.out);clear bz;cases hr2 : (fns L.M g).e d q fr y s' with
  | stuck=>exact absurd (by rw [ht3,hr2];rfl) ho
  | stop way s2=>
   rw [hr2] at oN;have HT:=zh (show tgt = .stop way s2 by rw [ht3,hr2];rfl);clear hr2 ht3 ho;go_wp2_with fail;refine y7 mV (aL L aR) rfl (by kernel_rfl) ?_;rw [← aI];clear aI;have hS:ae (aL L aR) wD wD:=ae.refl _ _
   repeat ((with_reducible show dY _ _ _ _ _ _ _ _ _);(first|refine iG ?_|refine iU rfl ?_|refine iV rfl rfl (by kernel_rfl) (fun _ _=>?_)|refine iW rfl rfl rfl (by first|exact Z1.out|exact Z2.out) (by assumption) (fun _ _=>?_));go_wp2_with fail)
   refine l6 rfl rfl (fun K Q hK hQ=>?_);go_wp2_with fail;refine oN.out.mono ?_;rintro e w2 ⟨bU,hm,hc,⟨older,hol,rfl⟩,d',hg⟩;have bD:=zh hm;have aD:=zh hc;have HG2:=zh hg;clear hm hc hg;refine hQ _ _ _ (fun a' ha=>?_);refine⟨ha,?_⟩;rw [HT.out];exact aj.after (aj.then HM.out HC.out (aj.after (aj.ended bD.out aD.out HG2.out (ae.refl _ _) ⟨older,hol,rfl⟩) dL.out)) aF.out
  | ok v2 s2=>
   rw [hr2] at oN;have AP : tgt=match both op v v2 with
    | some n=>.ok n s2
    | none=>.stop 2 s2:=by rw [ht3,hr2];rfl
   have AQ:=zh (fun w=>Zi op v v2 w);clear hr2 ht3 ho;go_wp2_with fail;refine y7 mV (aL L aR) rfl (by kernel_rfl) ?_;rw [← aI];clear aI;have hS:ae (aL L aR) wD wD:=ae.refl _ _
   repeat ((with_reducible show dY _ _ _ _ _ _ _ _ _);(first|refine iG ?_|refine iU rfl ?_|refine iV rfl rfl (by kernel_rfl) (fun _ _=>?_)|refine iW rfl rfl rfl (by first|exact Z1.out|exact Z2.out) (by assumption) (fun _ _=>?_));go_wp2_with fail)
   refine l6 rfl rfl (fun K Q hK hQ=>?_);go_wp2_with fail;refine oN.out.mono ?_;rintro e w2 ⟨bU,hm,hc,rfl,hg⟩;have bD:=zh hm;have aD:=zh hc;have HG2:=zh hg;clear hm hc hg hS;go_wp2_with fail;refine⟨aD.out,?_⟩;have hS:=aD.out
   repeat ((with_reducible show dY _ _ _ _ _ _ _ _ _);(first|refine iG ?_|refine iU rfl ?_|refine iV rfl rfl (by kernel_rfl) (fun _ _=>?_)|refine iW rfl rfl rfl (by first|exact Z1.out|exact Z2.out) (by assumption) (fun _ _=>?_));go_wp2_with fail)
   refine l6 rfl rfl (fun K Q hK hQ=>?_);go_wp2_with fail;refine(AQ.out w2).mono ?_;rintro e w3 ⟨uQ,hc3⟩;have bG:=zh hc3;cases hbb : both op v v2 with
   | some n=>
    rw [hbb] at uQ AP;simp only [jY] at uQ;subst uQ;have HT:=zh (show tgt = .ok n s2 from AP);clear hc3 AP hbb hS;go_wp2_with fail;refine⟨aD.out.then bG.out.weak,?_⟩;have hS:=aD.out.then bG.out.weak
    repeat ((with_reducible show dY _ _ _ _ _ _ _ _ _);(first|refine iG ?_|refine iU rfl ?_|refine iV rfl rfl (by kernel_rfl) (fun _ _=>?_)|refine iW rfl rfl rfl (by first|exact Z1.out|exact Z2.out) (by assumption) (fun _ _=>?_));go_wp2_with fail)
    clear hS q0 q5 q7 b0' xh AO;go_wp2_with fail;go_ret
    rw [HT.out];exact aj.after (aj.then HM.out HC.out (aj.after (aj.done bD.out aD.out HG2.out bG.out rfl) dL.out)) aF.out
   | none=>
    rw [hbb] at uQ AP;simp only [jY] at uQ;subst uQ;have HT:=zh (show tgt = .stop 2 s2 from AP);have HS:=zh (fun w=>Ay 2 w);clear hc3 AP hbb hS;go_wp2_with fail;refine⟨aD.out.then bG.out.weak,?_⟩;have hS:=aD.out.then bG.out.weak
    repeat ((with_reducible show dY _ _ _ _ _ _ _ _ _);(first|refine iG ?_|refine iU rfl ?_|refine iV rfl rfl (by kernel_rfl) (fun _ _=>?_)|refine iW rfl rfl rfl (by first|exact Z1.out|exact Z2.out) (by assumption) (fun _ _=>?_));go_wp2_with fail)
    clear hS q0 q5 q7 b0' xh AO;go_wp2_with fail;refine(HS.out w3).mono ?_;rintro _ _ ⟨⟨older,hol,rfl⟩,hw⟩;have hw:=hw.symm;subst hw;go_wp2_with fail;refine⟨rfl,?_⟩;rw [HT.out];exact aj.after (aj.then HM.out HC.out (aj.after (aj.ended bD.out aD.out HG2.out bG.out ⟨older,hol,rfl⟩) dL.out)) aF.out
end Go.Proofs.YtechofppmnnomaaGreatDoor
namespace Go.Mq.Run
open Go Go.RowKit Go.Mq Go.Mq.Tree
theorem Gp {w:World} {L:Lay} {d:Nat} {s:St} {ov:Value} (h:Going w L d s ov) {q n:Nm} {b k:Nat} (hd:L.au q n=some (b,k)) : ∃ l:List Int,s.vs q n=some l∧l.length=k ∧ ∀ i,i < k→w.cell? ⟨b,i,none⟩=some (num (l.getD i 0)):=by
 have:=h.dyn q n;rw [hd] at this;obtain⟨l,h1,h2,h3⟩:=this;refine⟨l,h1,h2,fun i hi=>h3.cell i _ ?_⟩;have hi' : i < l.length:=by omega
 simp [hi']
end Go.Mq.Run
namespace Go.Proofs.YtechofppmnnomaaGreatDoor
open Go Go.RowKit Go.Mq Go.Mq.Tree Go.Mq.Run
open Go.Mq.Check (fI cu bK dx)
set_option maxRecDepth 100000
set_option maxHeartbeats 4000000
theorem Zr (g:Nat) (hE:jd g) {L:Lay} {d:Nat} {q:Nm} {fr:Fr} {p:Nat} {s:St} {w:World} {ov:Value} {ob:Option Nat} {u:Value} {m:Mod} {n:Nm} {i:E} {ba k:Nat} {mq:Mod} (h:Going w L d s ov) (hq:L.M q=some m) (hfr:eG w ob fr) (hx:aY w L.Fix (.item p [] n i) [u]) (hfe:bK i) (eB:L.M q=some mq) (fB:L.au q n=some (ba,k)) (ho : (fns L.M (g + 1)).e d q fr (.item p [] n i) s ≠ .stuck) :
  Calls Tryz.prog 117 #[ptr L.br,ptr (L.pb q),.map ob,u] w (aj w L d ov [] (fun _ n e=>e = .returned (num n)) ((fns L.M (g + 1)).e d q fr (.item p [] n i) s)):=by
 obtain⟨b,ul,he,hF,hb,hxl⟩:=hx;cases he
 obtain⟨wA,az⟩ : ∃ x,w.alloc (.cells #[ptr b] 166)=x:=⟨_,rfl⟩
 have hc0:ae [] w wA:=by rw [← az];exact(ae.refl _ _).alloc _
 have hb0:=hb.kept hc0 (by simp);have hbx:ag wA w.heap.size #[ptr b] 166:=by rw [← az];exact ag.new w #[ptr b] 166
 have b0:=hbx.cell 0 _ rfl;have HX:=zh hb0;have gJ:=zh hbx;have HF:=zh hF;have d0:=hb0.cell 0 _ rfl;have d3:=hb0.cell 3 _ rfl;have aF:=zh hc0;have H:=zh (h.kept hc0);have cB:=zh (hfr.kept hc0 (by simp));obtain⟨tgt,ht⟩ : ∃ o,o=(fns L.M (g + 1)).e d q fr (.item p [] n i) s:=⟨_,rfl⟩
 have ht2 : tgt=((fns L.M g).e d q fr i s).bind (fun k s=>j4 (s.vs q n) k s):=by
  have hw : dC q []=q:=rfl;rw [ht]
  show (if (L.M (dC q [])).isSome then _ else _)=_
  rw [hw,eB]
  rfl
 rw [← ht] at ho ⊢;obtain⟨wD,aI⟩ : ∃ x,x=wA.drew:=⟨_,rfl⟩
 have bz:ae [] wA wD:=by rw [aI];exact(ae.refl [] wA).drew
 have dL:=zh bz;have gF:=zh (H.out.kept bz);have bS:=zh (hE gF.out hq (cB.out.kept bz (by simp)) ((hxl.kept hc0 (by simp)).kept bz (by simp)) hfe (fun hs=>ho (by rw [ht2,hs];rfl)));have q0:=(hbx.kept bz (by simp)).cell 0 _ rfl;have q4:=(hb0.kept bz (by simp)).cell 4 _ rfl;have q6:=(hb0.kept bz (by simp)).cell 6 _ rfl;obtain⟨c0,c1,c2,c3,c4,bm,hpb,il,hlk⟩:=tQ gF.out eB;have p5:=hpb.cell 5 _ rfl;have hlk2 : ∀ w',ae (aL L ov) wD w'→(Instr.lookup 99 (.map (some bm)) (str n) false).run Tryz.prog w' = .ok (.slice (some ⟨ba,0,none⟩) k k) w':=fun w' hc=>by
  have:=hlk w' _ hc gF.out.dz n;rw [fB] at this;exact this
 have fV:=zh hlk2;have Z1:=zh (bZ.of (X:=aL L ov) q0 (H.out.gQ hbx (by decide) (by decide)));have Z2:=zh (bZ.of (X:=aL L ov) q4 (fun hm=>H.out.dz b hm hF));have Z3:=zh (bZ.of (X:=aL L ov) p5 (fun hm=>H.out.dz _ hm il));clear h hb hb0 hc0 hfr hxl hbx ht hq hfe eB bz hpb hlk hlk2 il
 go_enter Tryz.func117,Tryz.ntmps117
 go_wp2_with fail;refine y7 (Gq [100]) (aL L ov) rfl (by kernel_rfl) ?_;rw [← aI];clear aI az;have hS:ae (aL L ov) wD wD:=ae.refl _ _
 repeat ((with_reducible show dY _ _ _ _ _ _ _ _ _);(first|refine iG ?_|refine iU rfl ?_|refine iV rfl rfl (by kernel_rfl) (fun _ _=>?_)|refine iW rfl rfl rfl (by first|exact Z1.out|exact Z2.out|exact Z3.out) (by assumption) (fun _ _=>?_));go_wp2_with fail)
 refine Gr rfl rfl rfl rfl fV.out ?_;go_wp2_with fail
 repeat ((with_reducible show dY _ _ _ _ _ _ _ _ _);(first|refine iG ?_|refine iU rfl ?_|refine iV rfl rfl (by kernel_rfl) (fun _ _=>?_)|refine iW rfl rfl rfl (by first|exact Z1.out|exact Z2.out|exact Z3.out) (by assumption) (fun _ _=>?_));go_wp2_with fail)
 refine l6 rfl rfl (fun K Q hK hQ=>?_);go_wp2_with fail;cases hr : (fns L.M g).e d q fr i s with
 | stuck=>exact absurd (by rw [ht2,hr];rfl) ho
 | stop way s'=>
  rw [hr] at bS;have HT:=zh (show tgt = .stop way s' by rw [ht2,hr];rfl);clear hr ht2 ho;refine bS.out.mono ?_;rintro e w1 ⟨aR,hm,hc,⟨older,hol,rfl⟩,d',hg⟩;have HM:=zh hm;have HC:=zh hc;have HG:=zh hg;clear hm hc hg;refine hQ _ _ _ (fun a' ha=>?_);refine⟨ha,?_⟩;rw [HT.out];exact aj.after (aj.after (aj.ended HM.out HC.out HG.out (ae.refl _ _) ⟨older,hol,rfl⟩) dL.out) aF.out
 | ok v s'=>
  rw [hr] at bS;have ht3 : tgt=j4 (s'.vs q n) v s':=by rw [ht2,hr];rfl
  clear hr ht2 ho;refine bS.out.mono ?_;rintro e w1 ⟨aR,hm,hc,rfl,hg⟩;have HM:=zh hm;have HC:=zh hc;have HG:=zh hg;obtain⟨l,hvs,hll,hcells⟩:=Gp hg fB;have y8:=(hg.lay.arr fB).2.2;have HI:=zh (Gi ba k k y8 v w1);rw [hvs] at ht3;have uR:=zh hcells;clear hm hc hg hvs hcells hS;by_cases hin : 0≤v∧v < (k:Int)
  ·have HT:=zh (show tgt = .ok (l.getD v.toNat 0) s' by rw [ht3,j4,if_pos (by rw [hll];exact hin)])
   simp only [if_pos hin] at HI;have hcell:=uR.out v.toNat (by omega);clear ht3 hin hll;go_wp2_with fail;refine⟨HC.out,?_⟩;have hS:=HC.out
   repeat ((with_reducible show dY _ _ _ _ _ _ _ _ _);(first|refine iG ?_|refine iU rfl ?_|refine iV rfl rfl (by kernel_rfl) (fun _ _=>?_)|refine iW rfl rfl rfl (by first|exact Z1.out|exact Z2.out|exact Z3.out) (by assumption) (fun _ _=>?_));go_wp2_with fail)
   refine l6 rfl rfl (fun K Q hK hQ=>?_);go_wp2_with fail;refine HI.out.mono ?_;rintro _ _ ⟨rfl,hw⟩;have hw:=hw.symm;subst hw;go_wp2_with fail;refine⟨HC.out,?_⟩
   repeat ((with_reducible show dY _ _ _ _ _ _ _ _ _);(first|refine iG ?_|refine iU rfl ?_|refine iV rfl rfl (by kernel_rfl) (fun _ _=>?_)|refine iW rfl rfl rfl (by first|exact Z1.out|exact Z2.out|exact Z3.out) (by assumption) (fun _ _=>?_));go_wp2_with fail)
   refine l6 rfl rfl (fun K Q hK hQ=>?_);go_wp2_with fail;refine⟨HC.out,?_⟩
   repeat ((with_reducible show dY _ _ _ _ _ _ _ _ _);(first|refine iG ?_|refine iU rfl ?_|refine iV rfl rfl (by kernel_rfl) (fun _ _=>?_)|refine iW rfl rfl rfl (by first|exact Z1.out|exact Z2.out|exact Z3.out) (by assumption) (fun _ _=>?_));go_wp2_with fail)
   clear hS Z1 Z2 Z3;go_wp2_with fail;go_ret
   rw [HT.out];exact aj.after (aj.after (aj.done HM.out HC.out HG.out (ae.refl _ _) rfl) dL.out) aF.out
  ·have HT:=zh (show tgt = .stop 3 s' by rw [ht3,j4,if_neg (by rw [hll];exact hin)])
   simp only [if_neg hin] at HI;clear ht3 hin hll;go_wp2_with fail;refine⟨HC.out,?_⟩;have hS:=HC.out
   repeat ((with_reducible show dY _ _ _ _ _ _ _ _ _);(first|refine iG ?_|refine iU rfl ?_|refine iV rfl rfl (by kernel_rfl) (fun _ _=>?_)|refine iW rfl rfl rfl (by first|exact Z1.out|exact Z2.out|exact Z3.out) (by assumption) (fun _ _=>?_));go_wp2_with fail)
   refine l6 rfl rfl (fun K Q hK hQ=>?_);go_wp2_with fail;refine HI.out.mono ?_;rintro _ _ ⟨⟨older,hol,rfl⟩,hw⟩;have hw:=hw.symm;subst hw;refine hQ _ _ _ (fun a' ha=>?_);refine⟨ha,?_⟩;rw [HT.out];exact aj.after (aj.after (aj.ended HM.out HC.out HG.out (ae.refl _ _) ⟨older,hol,rfl⟩) dL.out) aF.out
theorem Zt (g:Nat) (hE:jd g) {L:Lay} {d:Nat} {q:Nm} {fr:Fr} {p:Nat} {s:St} {w:World} {ov:Value} {ob:Option Nat} {u:Value} {m:Mod} {n:Nm} {i:E} {mq:Mod} (h:Going w L d s ov) (hq:L.M q=some m) (hfr:eG w ob fr) (hx:aY w L.Fix (.item p [] n i) [u]) (hfe:bK i) (eB:L.M q=some mq) (fB:L.au q n=none) (ho : (fns L.M (g + 1)).e d q fr (.item p [] n i) s ≠ .stuck) :
  Calls Tryz.prog 117 #[ptr L.br,ptr (L.pb q),.map ob,u] w (aj w L d ov [] (fun _ n e=>e = .returned (num n)) ((fns L.M (g + 1)).e d q fr (.item p [] n i) s)):=by
 obtain⟨b,ul,he,hF,hb,hxl⟩:=hx;cases he
 obtain⟨wA,az⟩ : ∃ x,w.alloc (.cells #[ptr b] 166)=x:=⟨_,rfl⟩
 have hc0:ae [] w wA:=by rw [← az];exact(ae.refl _ _).alloc _
 have hb0:=hb.kept hc0 (by simp);have hbx:ag wA w.heap.size #[ptr b] 166:=by rw [← az];exact ag.new w #[ptr b] 166
 have b0:=hbx.cell 0 _ rfl;have HX:=zh hb0;have gJ:=zh hbx;have HF:=zh hF;have d0:=hb0.cell 0 _ rfl;have d3:=hb0.cell 3 _ rfl;have aF:=zh hc0;have H:=zh (h.kept hc0);have cB:=zh (hfr.kept hc0 (by simp));obtain⟨tgt,ht⟩ : ∃ o,o=(fns L.M (g + 1)).e d q fr (.item p [] n i) s:=⟨_,rfl⟩
 have ht2 : tgt=((fns L.M g).e d q fr i s).bind (fun k s=>j4 (s.vs q n) k s):=by
  have hw : dC q []=q:=rfl;rw [ht]
  show (if (L.M (dC q [])).isSome then _ else _)=_
  rw [hw,eB]
  rfl
 rw [← ht] at ho ⊢;obtain⟨wD,aI⟩ : ∃ x,x=wA.drew:=⟨_,rfl⟩
 have bz:ae [] wA wD:=by rw [aI];exact(ae.refl [] wA).drew
 have dL:=zh bz;have gF:=zh (H.out.kept bz);have bS:=zh (hE gF.out hq (cB.out.kept bz (by simp)) ((hxl.kept hc0 (by simp)).kept bz (by simp)) hfe (fun hs=>ho (by rw [ht2,hs];rfl)));have q0:=(hbx.kept bz (by simp)).cell 0 _ rfl;have q4:=(hb0.kept bz (by simp)).cell 4 _ rfl;have q6:=(hb0.kept bz (by simp)).cell 6 _ rfl;obtain⟨c0,c1,c2,c3,c4,bm,hpb,il,hlk⟩:=tQ gF.out eB;have p5:=hpb.cell 5 _ rfl;have hlk2 : ∀ w',ae (aL L ov) wD w'→(Instr.lookup 99 (.map (some bm)) (str n) false).run Tryz.prog w' = .ok ah w':=fun w' hc=>by
  have:=hlk w' _ hc gF.out.dz n;rw [fB] at this;exact this
 have fV:=zh hlk2;have Z1:=zh (bZ.of (X:=aL L ov) q0 (H.out.gQ hbx (by decide) (by decide)));have Z2:=zh (bZ.of (X:=aL L ov) q4 (fun hm=>H.out.dz b hm hF));have Z3:=zh (bZ.of (X:=aL L ov) p5 (fun hm=>H.out.dz _ hm il));clear h hb hb0 hc0 hfr hxl hbx ht hq hfe eB bz hpb hlk hlk2 il
 go_enter Tryz.func117,Tryz.ntmps117
 go_wp2_with fail;refine y7 (Gq [100]) (aL L ov) rfl (by kernel_rfl) ?_;rw [← aI];clear aI az;have hS:ae (aL L ov) wD wD:=ae.refl _ _
 repeat ((with_reducible show dY _ _ _ _ _ _ _ _ _);(first|refine iG ?_|refine iU rfl ?_|refine iV rfl rfl (by kernel_rfl) (fun _ _=>?_)|refine iW rfl rfl rfl (by first|exact Z1.out|exact Z2.out|exact Z3.out) (by assumption) (fun _ _=>?_));go_wp2_with fail)
 refine Gr rfl rfl rfl rfl fV.out ?_;go_wp2_with fail
 repeat ((with_reducible show dY _ _ _ _ _ _ _ _ _);(first|refine iG ?_|refine iU rfl ?_|refine iV rfl rfl (by kernel_rfl) (fun _ _=>?_)|refine iW rfl rfl rfl (by first|exact Z1.out|exact Z2.out|exact Z3.out) (by assumption) (fun _ _=>?_));go_wp2_with fail)
 refine l6 rfl rfl (fun K Q hK hQ=>?_);go_wp2_with fail;cases hr : (fns L.M g).e d q fr i s with
 | stuck=>exact absurd (by rw [ht2,hr];rfl) ho
 | stop way s'=>
  rw [hr] at bS;have HT:=zh (show tgt = .stop way s' by rw [ht2,hr];rfl);clear hr ht2 ho;refine bS.out.mono ?_;rintro e w1 ⟨aR,hm,hc,⟨older,hol,rfl⟩,d',hg⟩;have HM:=zh hm;have HC:=zh hc;have HG:=zh hg;clear hm hc hg;refine hQ _ _ _ (fun a' ha=>?_);refine⟨ha,?_⟩;rw [HT.out];exact aj.after (aj.after (aj.ended HM.out HC.out HG.out (ae.refl _ _) ⟨older,hol,rfl⟩) dL.out) aF.out
 | ok v s'=>
  rw [hr] at bS;have ht3 : tgt=j4 (s'.vs q n) v s':=by rw [ht2,hr];rfl
  clear hr ht2 ho;refine bS.out.mono ?_;rintro e w1 ⟨aR,hm,hc,rfl,hg⟩;have HM:=zh hm;have HC:=zh hc;have HG:=zh hg;have hdn:=hg.dyn q n;rw [fB] at hdn;simp only at hdn;rw [hdn] at ht3;have HT:=zh (show tgt = .stop 3 s' from ht3);have HI:=zh (Gh v w1);clear hm hc hg hdn ht3 hS;go_wp2_with fail;refine⟨HC.out,?_⟩;have hS:=HC.out
  repeat ((with_reducible show dY _ _ _ _ _ _ _ _ _);(first|refine iG ?_|refine iU rfl ?_|refine iV rfl rfl (by kernel_rfl) (fun _ _=>?_)|refine iW rfl rfl rfl (by first|exact Z1.out|exact Z2.out|exact Z3.out) (by assumption) (fun _ _=>?_));go_wp2_with fail)
  refine l6 rfl rfl (fun K Q hK hQ=>?_);go_wp2_with fail;refine HI.out.mono ?_;rintro _ _ ⟨⟨older,hol,rfl⟩,hw⟩;have hw:=hw.symm;subst hw;refine hQ _ _ _ (fun a' ha=>?_);refine⟨ha,?_⟩;rw [HT.out];exact aj.after (aj.after (aj.ended HM.out HC.out HG.out (ae.refl _ _) ⟨older,hol,rfl⟩) dL.out) aF.out
theorem Zu (g:Nat) (hE:jd g) {L:Lay} {d:Nat} {q:Nm} {fr:Fr} {p:Nat} {s:St} {w:World} {ov:Value} {ob:Option Nat} {u:Value} {m:Mod} {mm:Nm} {n:Nm} {i:E} {ba k:Nat} {mq:Mod} (h:Going w L d s ov) (hq:L.M q=some m) (hfr:eG w ob fr) (hx:aY w L.Fix (.item p mm n i) [u]) (hfe:bK i) (hmm : mm≠[]) (eB:L.M mm=some mq) (fB:L.au mm n=some (ba,k)) (ho : (fns L.M (g + 1)).e d q fr (.item p mm n i) s ≠ .stuck) :
  Calls Tryz.prog 117 #[ptr L.br,ptr (L.pb q),.map ob,u] w (aj w L d ov [] (fun _ n e=>e = .returned (num n)) ((fns L.M (g + 1)).e d q fr (.item p mm n i) s)):=by
 obtain⟨b,ul,he,hF,hb,hxl⟩:=hx;cases he
 obtain⟨wA,az⟩ : ∃ x,w.alloc (.cells #[ptr b] 166)=x:=⟨_,rfl⟩
 have hc0:ae [] w wA:=by rw [← az];exact(ae.refl _ _).alloc _
 have hb0:=hb.kept hc0 (by simp);have hbx:ag wA w.heap.size #[ptr b] 166:=by rw [← az];exact ag.new w #[ptr b] 166
 have b0:=hbx.cell 0 _ rfl;have HX:=zh hb0;have gJ:=zh hbx;have HF:=zh hF;have d0:=hb0.cell 0 _ rfl;have d3:=hb0.cell 3 _ rfl;have aF:=zh hc0;have H:=zh (h.kept hc0);have cB:=zh (hfr.kept hc0 (by simp));obtain⟨tgt,ht⟩ : ∃ o,o=(fns L.M (g + 1)).e d q fr (.item p mm n i) s:=⟨_,rfl⟩
 have ht2 : tgt=((fns L.M g).e d q fr i s).bind (fun k s=>j4 (s.vs mm n) k s):=by
  have hw : dC q mm=mm:=by rw [dC,if_neg hmm]
  rw [ht]
  show (if (L.M (dC q mm)).isSome then _ else _)=_
  rw [hw,eB]
  rfl
 rw [← ht] at ho ⊢;obtain⟨wD,aI⟩ : ∃ x,x=wA.drew.drew:=⟨_,rfl⟩
 have bz:ae [] wA wD:=by rw [aI];exact(ae.refl [] wA).drew.drew
 have dL:=zh bz;have gF:=zh (H.out.kept bz);have bS:=zh (hE gF.out hq (cB.out.kept bz (by simp)) ((hxl.kept hc0 (by simp)).kept bz (by simp)) hfe (fun hs=>ho (by rw [ht2,hs];rfl)));have q0:=(hbx.kept bz (by simp)).cell 0 _ rfl;have q4:=(hb0.kept bz (by simp)).cell 4 _ rfl;have q6:=(hb0.kept bz (by simp)).cell 6 _ rfl;obtain⟨c0,c1,c2,c3,c4,bm,hpb,il,hlk⟩:=tQ gF.out eB;have p5:=hpb.cell 5 _ rfl;have hlk2 : ∀ w',ae (aL L ov) wD w'→(Instr.lookup 99 (.map (some bm)) (str n) false).run Tryz.prog w' = .ok (.slice (some ⟨ba,0,none⟩) k k) w':=fun w' hc=>by
  have:=hlk w' _ hc gF.out.dz n;rw [fB] at this;exact this
 have fV:=zh hlk2;have Z1:=zh (bZ.of (X:=aL L ov) q0 (H.out.gQ hbx (by decide) (by decide)));have Z2:=zh (bZ.of (X:=aL L ov) q4 (fun hm=>H.out.dz b hm hF));have Z3:=zh (bZ.of (X:=aL L ov) p5 (fun hm=>H.out.dz _ hm il));have r0:=H.out.run.cell 0 _ rfl;obtain⟨bp,J9,hwb,hwf,jw⟩:=Gl H.out;have w0:=hwb.cell 0 _ rfl;have hl0:=jw wA.drew [] (ae.refl _ _).drew (by simp) mm;rw [eB] at hl0;simp only at hl0;have hm1 : (mm == [])=false:=by simpa using hmm
 have hm2 : (mm != [])=true:=by simpa using hmm
 clear jw hwb hwf hmm;clear h hb hb0 hc0 hfr hxl hbx ht hq hfe eB bz hpb hlk hlk2 il
 go_enter Tryz.func117,Tryz.ntmps117
 go_wp2_with fail
 go_region
 all_goals (try go_wp2_with fail)
 refine y7 (Gq [100]) (aL L ov) rfl (by kernel_rfl) ?_;rw [← aI];clear aI az;have hS:ae (aL L ov) wD wD:=ae.refl _ _
 repeat ((with_reducible show dY _ _ _ _ _ _ _ _ _);(first|refine iG ?_|refine iU rfl ?_|refine iV rfl rfl (by kernel_rfl) (fun _ _=>?_)|refine iW rfl rfl rfl (by first|exact Z1.out|exact Z2.out|exact Z3.out) (by assumption) (fun _ _=>?_));go_wp2_with fail)
 refine Gr rfl rfl rfl rfl fV.out ?_;go_wp2_with fail
 repeat ((with_reducible show dY _ _ _ _ _ _ _ _ _);(first|refine iG ?_|refine iU rfl ?_|refine iV rfl rfl (by kernel_rfl) (fun _ _=>?_)|refine iW rfl rfl rfl (by first|exact Z1.out|exact Z2.out|exact Z3.out) (by assumption) (fun _ _=>?_));go_wp2_with fail)
 refine l6 rfl rfl (fun K Q hK hQ=>?_);go_wp2_with fail;cases hr : (fns L.M g).e d q fr i s with
 | stuck=>exact absurd (by rw [ht2,hr];rfl) ho
 | stop way s'=>
  rw [hr] at bS;have HT:=zh (show tgt = .stop way s' by rw [ht2,hr];rfl);clear hr ht2 ho;refine bS.out.mono ?_;rintro e w1 ⟨aR,hm,hc,⟨older,hol,rfl⟩,d',hg⟩;have HM:=zh hm;have HC:=zh hc;have HG:=zh hg;clear hm hc hg;refine hQ _ _ _ (fun a' ha=>?_);refine⟨ha,?_⟩;rw [HT.out];exact aj.after (aj.after (aj.ended HM.out HC.out HG.out (ae.refl _ _) ⟨older,hol,rfl⟩) dL.out) aF.out
 | ok v s'=>
  rw [hr] at bS;have ht3 : tgt=j4 (s'.vs mm n) v s':=by rw [ht2,hr];rfl
  clear hr ht2 ho;refine bS.out.mono ?_;rintro e w1 ⟨aR,hm,hc,rfl,hg⟩;have HM:=zh hm;have HC:=zh hc;have HG:=zh hg;obtain⟨l,hvs,hll,hcells⟩:=Gp hg fB;have y8:=(hg.lay.arr fB).2.2;have HI:=zh (Gi ba k k y8 v w1);rw [hvs] at ht3;have uR:=zh hcells;clear hm hc hg hvs hcells hS;by_cases hin : 0≤v∧v < (k:Int)
  ·have HT:=zh (show tgt = .ok (l.getD v.toNat 0) s' by rw [ht3,j4,if_pos (by rw [hll];exact hin)])
   simp only [if_pos hin] at HI;have hcell:=uR.out v.toNat (by omega);clear ht3 hin hll;go_wp2_with fail;refine⟨HC.out,?_⟩;have hS:=HC.out
   repeat ((with_reducible show dY _ _ _ _ _ _ _ _ _);(first|refine iG ?_|refine iU rfl ?_|refine iV rfl rfl (by kernel_rfl) (fun _ _=>?_)|refine iW rfl rfl rfl (by first|exact Z1.out|exact Z2.out|exact Z3.out) (by assumption) (fun _ _=>?_));go_wp2_with fail)
   refine l6 rfl rfl (fun K Q hK hQ=>?_);go_wp2_with fail;refine HI.out.mono ?_;rintro _ _ ⟨rfl,hw⟩;have hw:=hw.symm;subst hw;go_wp2_with fail;refine⟨HC.out,?_⟩
   repeat ((with_reducible show dY _ _ _ _ _ _ _ _ _);(first|refine iG ?_|refine iU rfl ?_|refine iV rfl rfl (by kernel_rfl) (fun _ _=>?_)|refine iW rfl rfl rfl (by first|exact Z1.out|exact Z2.out|exact Z3.out) (by assumption) (fun _ _=>?_));go_wp2_with fail)
   refine l6 rfl rfl (fun K Q hK hQ=>?_);go_wp2_with fail;refine⟨HC.out,?_⟩
   repeat ((with_reducible show dY _ _ _ _ _ _ _ _ _);(first|refine iG ?_|refine iU rfl ?_|refine iV rfl rfl (by kernel_rfl) (fun _ _=>?_)|refine iW rfl rfl rfl (by first|exact Z1.out|exact Z2.out|exact Z3.out) (by assumption) (fun _ _=>?_));go_wp2_with fail)
   clear hS Z1 Z2 Z3;go_wp2_with fail;go_ret
   rw [HT.out];exact aj.after (aj.after (aj.done HM.out HC.out HG.out (ae.refl _ _) rfl) dL.out) aF.out
  ·have HT:=zh (show tgt = .stop 3 s' by rw [ht3,j4,if_neg (by rw [hll];exact hin)])
   simp only [if_neg hin] at HI;clear ht3 hin hll;go_wp2_with fail;refine⟨HC.out,?_⟩;have hS:=HC.out
   repeat ((with_reducible show dY _ _ _ _ _ _ _ _ _);(first|refine iG ?_|refine iU rfl ?_|refine iV rfl rfl (by kernel_rfl) (fun _ _=>?_)|refine iW rfl rfl rfl (by first|exact Z1.out|exact Z2.out|exact Z3.out) (by assumption) (fun _ _=>?_));go_wp2_with fail)
   refine l6 rfl rfl (fun K Q hK hQ=>?_);go_wp2_with fail;refine HI.out.mono ?_;rintro _ _ ⟨⟨older,hol,rfl⟩,hw⟩;have hw:=hw.symm;subst hw;refine hQ _ _ _ (fun a' ha=>?_);refine⟨ha,?_⟩;rw [HT.out];exact aj.after (aj.after (aj.ended HM.out HC.out HG.out (ae.refl _ _) ⟨older,hol,rfl⟩) dL.out) aF.out
theorem Zv (g:Nat) (hE:jd g) {L:Lay} {d:Nat} {q:Nm} {fr:Fr} {p:Nat} {s:St} {w:World} {ov:Value} {ob:Option Nat} {u:Value} {m:Mod} {mm:Nm} {n:Nm} {i:E} {mq:Mod} (h:Going w L d s ov) (hq:L.M q=some m) (hfr:eG w ob fr) (hx:aY w L.Fix (.item p mm n i) [u]) (hfe:bK i) (hmm : mm≠[]) (eB:L.M mm=some mq) (fB:L.au mm n=none) (ho : (fns L.M (g + 1)).e d q fr (.item p mm n i) s ≠ .stuck) :
  Calls Tryz.prog 117 #[ptr L.br,ptr (L.pb q),.map ob,u] w (aj w L d ov [] (fun _ n e=>e = .returned (num n)) ((fns L.M (g + 1)).e d q fr (.item p mm n i) s)):=by
 obtain⟨b,ul,he,hF,hb,hxl⟩:=hx;cases he
 obtain⟨wA,az⟩ : ∃ x,w.alloc (.cells #[ptr b] 166)=x:=⟨_,rfl⟩
 have hc0:ae [] w wA:=by rw [← az];exact(ae.refl _ _).alloc _
 have hb0:=hb.kept hc0 (by simp);have hbx:ag wA w.heap.size #[ptr b] 166:=by rw [← az];exact ag.new w #[ptr b] 166
 have b0:=hbx.cell 0 _ rfl;have HX:=zh hb0;have gJ:=zh hbx;have HF:=zh hF;have d0:=hb0.cell 0 _ rfl;have d3:=hb0.cell 3 _ rfl;have aF:=zh hc0;have H:=zh (h.kept hc0);have cB:=zh (hfr.kept hc0 (by simp));obtain⟨tgt,ht⟩ : ∃ o,o=(fns L.M (g + 1)).e d q fr (.item p mm n i) s:=⟨_,rfl⟩
 have ht2 : tgt=((fns L.M g).e d q fr i s).bind (fun k s=>j4 (s.vs mm n) k s):=by
  have hw : dC q mm=mm:=by rw [dC,if_neg hmm]
  rw [ht]
  show (if (L.M (dC q mm)).isSome then _ else _)=_
  rw [hw,eB]
  rfl
 rw [← ht] at ho ⊢;obtain⟨wD,aI⟩ : ∃ x,x=wA.drew.drew:=⟨_,rfl⟩
 have bz:ae [] wA wD:=by rw [aI];exact(ae.refl [] wA).drew.drew
 have dL:=zh bz;have gF:=zh (H.out.kept bz);have bS:=zh (hE gF.out hq (cB.out.kept bz (by simp)) ((hxl.kept hc0 (by simp)).kept bz (by simp)) hfe (fun hs=>ho (by rw [ht2,hs];rfl)));have q0:=(hbx.kept bz (by simp)).cell 0 _ rfl;have q4:=(hb0.kept bz (by simp)).cell 4 _ rfl;have q6:=(hb0.kept bz (by simp)).cell 6 _ rfl;obtain⟨c0,c1,c2,c3,c4,bm,hpb,il,hlk⟩:=tQ gF.out eB;have p5:=hpb.cell 5 _ rfl;have hlk2 : ∀ w',ae (aL L ov) wD w'→(Instr.lookup 99 (.map (some bm)) (str n) false).run Tryz.prog w' = .ok ah w':=fun w' hc=>by
  have:=hlk w' _ hc gF.out.dz n;rw [fB] at this;exact this
 have fV:=zh hlk2;have Z1:=zh (bZ.of (X:=aL L ov) q0 (H.out.gQ hbx (by decide) (by decide)));have Z2:=zh (bZ.of (X:=aL L ov) q4 (fun hm=>H.out.dz b hm hF));have Z3:=zh (bZ.of (X:=aL L ov) p5 (fun hm=>H.out.dz _ hm il));have r0:=H.out.run.cell 0 _ rfl;obtain⟨bp,J9,hwb,hwf,jw⟩:=Gl H.out;have w0:=hwb.cell 0 _ rfl;have hl0:=jw wA.drew [] (ae.refl _ _).drew (by simp) mm;rw [eB] at hl0;simp only at hl0;have hm1 : (mm == [])=false:=by simpa using hmm
 have hm2 : (mm != [])=true:=by simpa using hmm
 clear jw hwb hwf hmm;clear h hb hb0 hc0 hfr hxl hbx ht hq hfe eB bz hpb hlk hlk2 il
 go_enter Tryz.func117,Tryz.ntmps117
 go_wp2_with fail
 go_region
 all_goals (try go_wp2_with fail)
 refine y7 (Gq [100]) (aL L ov) rfl (by kernel_rfl) ?_;rw [← aI];clear aI az;have hS:ae (aL L ov) wD wD:=ae.refl _ _
 repeat ((with_reducible show dY _ _ _ _ _ _ _ _ _);(first|refine iG ?_|refine iU rfl ?_|refine iV rfl rfl (by kernel_rfl) (fun _ _=>?_)|refine iW rfl rfl rfl (by first|exact Z1.out|exact Z2.out|exact Z3.out) (by assumption) (fun _ _=>?_));go_wp2_with fail)
 refine Gr rfl rfl rfl rfl fV.out ?_;go_wp2_with fail
 repeat ((with_reducible show dY _ _ _ _ _ _ _ _ _);(first|refine iG ?_|refine iU rfl ?_|refine iV rfl rfl (by kernel_rfl) (fun _ _=>?_)|refine iW rfl rfl rfl (by first|exact Z1.out|exact Z2.out|exact Z3.out) (by assumption) (fun _ _=>?_));go_wp2_with fail)
 refine l6 rfl rfl (fun K Q hK hQ=>?_);go_wp2_with fail;cases hr : (fns L.M g).e d q fr i s with
 | stuck=>exact absurd (by rw [ht2,hr];rfl) ho
 | stop way s'=>
  rw [hr] at bS;have HT:=zh (show tgt = .stop way s' by rw [ht2,hr];rfl);clear hr ht2 ho;refine bS.out.mono ?_;rintro e w1 ⟨aR,hm,hc,⟨older,hol,rfl⟩,d',hg⟩;have HM:=zh hm;have HC:=zh hc;have HG:=zh hg;clear hm hc hg;refine hQ _ _ _ (fun a' ha=>?_);refine⟨ha,?_⟩;rw [HT.out];exact aj.after (aj.after (aj.ended HM.out HC.out HG.out (ae.refl _ _) ⟨older,hol,rfl⟩) dL.out) aF.out
 | ok v s'=>
  rw [hr] at bS;have ht3 : tgt=j4 (s'.vs mm n) v s':=by rw [ht2,hr];rfl
  clear hr ht2 ho;refine bS.out.mono ?_;rintro e w1 ⟨aR,hm,hc,rfl,hg⟩;have HM:=zh hm;have HC:=zh hc;have HG:=zh hg;have hdn:=hg.dyn mm n;rw [fB] at hdn;simp only at hdn;rw [hdn] at ht3;have HT:=zh (show tgt = .stop 3 s' from ht3);have HI:=zh (Gh v w1);clear hm hc hg hdn ht3 hS;go_wp2_with fail;refine⟨HC.out,?_⟩;have hS:=HC.out
  repeat ((with_reducible show dY _ _ _ _ _ _ _ _ _);(first|refine iG ?_|refine iU rfl ?_|refine iV rfl rfl (by kernel_rfl) (fun _ _=>?_)|refine iW rfl rfl rfl (by first|exact Z1.out|exact Z2.out|exact Z3.out) (by assumption) (fun _ _=>?_));go_wp2_with fail)
  refine l6 rfl rfl (fun K Q hK hQ=>?_);go_wp2_with fail;refine HI.out.mono ?_;rintro _ _ ⟨⟨older,hol,rfl⟩,hw⟩;have hw:=hw.symm;subst hw;refine hQ _ _ _ (fun a' ha=>?_);refine⟨ha,?_⟩;rw [HT.out];exact aj.after (aj.after (aj.ended HM.out HC.out HG.out (ae.refl _ _) ⟨older,hol,rfl⟩) dL.out) aF.out
end Go.Proofs.YtechofppmnnomaaGreatDoor
namespace Go.Mq.Run
open Go Go.RowKit Go.Mq Go.Mq.Tree
theorem Going.aside {w w':World} {L:Lay} {d:Nat} {s:St} {ov:Value} {Z:List Nat} (h:Going w L d s ov) (hc:ae Z w w') (hZ : ∀ x∈Z,x∉aL L ov∧¬ L.Fix x):Going w' L d s ov:=
 ⟨h.lay,h.stat.kept hc (fun x hx=>(hZ x hx).2),h.run.kept hc (fun hm=>(hZ _ hm).1 List.mem_cons_self),h.dyn.kept hc (fun q n b k hd hm=>(hZ b hm).1 (List.mem_cons_of_mem _ (List.mem_append_right _ (h.lay.arr hd).1))),fun hb=>by
  obtain⟨cs,f,hh⟩:=h.oJ hb;exact⟨cs,f,by rw [hc.block _ (Array.getElem?_eq_some_iff.1 hh).1 (fun hm=>(hZ _ hm).1 (List.mem_cons_of_mem _ (List.mem_append_right _ hb)))];exact hh⟩,cK h.out hc (fun g hg hm=>(hZ g hm).1 (List.mem_cons_of_mem _ (List.mem_append_left _ hg))),h.from_,h.few,h.deep,h.most⟩
end Go.Mq.Run
namespace Go.Proofs.YtechofppmnnomaaGreatDoor
open Go Go.RowKit Go.Mq Go.Mq.Tree Go.Mq.Sym Go.Mq.Check Go.Mq.Run
set_option maxRecDepth 100000
set_option maxHeartbeats 2000000
theorem Zw (x:aX) (n:List UInt8) (pos:Int) (a1:Option Addr) (k1:Nat) (a2:Option Addr) (n2 k2:Nat) (a3:Option Addr) (n3 k3:Nat) (be b0:Nat) (c0 c1 c2 c3 c5 c6 c7 c8:Value) (w:World) (hx : w.cell? ⟨b0,0,none⟩=some (ptr be)) (hb:ag w be #[c0,c1,c2,c3,str n,c5,c6,c7,c8] 192) :
  Calls Tryz.prog 140 #[.agg #[str x.name,.int .i64 pos,.bool x.seen,.slice a1 x.params.length k1,.slice a2 n2 k2,.slice a3 n3 k3],ptr b0] w (fun e w'=>e = .returned (.bool (x.name == n))∧ae [] w w'):=by
 have hx':=((ae.refl [] w).alloc (.cells #[str x.name,.int .i64 pos,.bool x.seen,.slice a1 x.params.length k1,.slice a2 n2 k2,.slice a3 n3 k3] 72)).aH hx (by simp);have d4:=((ae.refl [] w).alloc (.cells #[str x.name,.int .i64 pos,.bool x.seen,.slice a1 x.params.length k1,.slice a2 n2 k2,.slice a3 n3 k3] 72)).aH (hb.cell 4 _ rfl) (by simp);have n0 : b0≠w.heap.size:=by have:=lt_of_cell hx;simp at this;omega
 have n1 : be≠w.heap.size:=by have:=hb.lt;omega
 have z:=ag.new w #[str x.name,.int .i64 pos,.bool x.seen,.slice a1 x.params.length k1,.slice a2 n2 k2,.slice a3 n3 k3] 72;have z0:=z.cell 0 _ rfl;clear hx hb z
 go_enter Tryz.func140,Tryz.ntmps140
 go_wp2_with fail
 go_region
 all_goals (try go_wp2_with fail)
 all_goals go_ret
 all_goals exact⟨rfl,((ae.refl _ _).alloc _).drew⟩
theorem Qc (l:List aX) (hl : l.length≤1000) (n:List UInt8) (be b0:Nat) (c0 c1 c2 c3 c5 c6 c7 c8:Value) (F:Nat→Prop) (v:Value) (w:World) (h:pX w F l v) (hx : w.cell? ⟨b0,0,none⟩=some (ptr be)) (hb:ag w be #[c0,c1,c2,c3,str n,c5,c6,c7,c8] 192) :
  Calls Tryz.prog 57 #[v,.func (.func 140) #[] #[ptr b0]] w (fun e w'=>ik l (fun g=>g.name == n) e∧ae [] w w'):=
 F7 #[ptr b0] 140 (fun _ _=>rfl) l hl _ F v w h (fun x _ pos a1 k1 a2 n2 k2 a3 n3 k3 w' hc=>Zw x n pos a1 k1 a2 n2 k2 a3 n3 k3 be b0 c0 c1 c2 c3 c5 c6 c7 c8 w' (hc.aH hx (by simp)) (hb.kept hc (by simp)))
end Go.Proofs.YtechofppmnnomaaGreatDoor
namespace Go.Mq.Run
open Go Go.RowKit Go.Mq Go.Mq.Tree
open Go.Mq.Check (fI cu bK dx)
theorem Qd (M:Ms) (g d:Nat) (q:Nm) (fr:Fr) (p:Nat) (m n:Nm) (l:E) (s:St) : (fns M (g + 1)).e d q fr (.app p m n l) s=match M (dC q m) with
  | none=>.stuck
  | some mo=>match mo.procs.find? fun p=>p.name == n with
   | none=>.stuck
   | some p=>((fns M g).es d q fr l s).bind fun args s=>(fns M g).c d (dC q m) p args s:=rfl
theorem Qe {M:Ms} {g:Nat} {d:Nat} {q:Nm} {fr:Fr} {x r:E} {s:St} {zs:List Int} {o:O (List Int)} (h : o=((fns M g).es d q fr (.cons x r) s).bind fun l s=>.ok (zs ++ l) s) (ho : o ≠ .stuck) :
  ∃ g',g=g' + 1∧o=((fns M g').e d q fr x s).bind fun n s=>((fns M g').es d q fr r s).bind fun l s=>.ok ((zs ++ [n]) ++ l) s:=by
 cases g with
 | zero=>exact absurd h ho
 | succ g'=>
  refine⟨g',rfl,?_⟩;rw [h]
  show (((fns M g').e d q fr x s).bind fun n s=>((fns M g').es d q fr r s).bind fun l s=>.ok (n :: l) s).bind _=_
  cases (fns M g').e d q fr x s with
  | stuck=>rfl
  | stop w s=>rfl
  | ok n s1=>
   show (((fns M g').es d q fr r s1).bind fun l s=>.ok (n :: l) s).bind _=((fns M g').es d q fr r s1).bind _
   cases (fns M g').es d q fr r s1 with
   | stuck=>rfl
   | stop w s=>rfl
   | ok l s2=>simp [O.bind]
theorem Qf {M:Ms} {g:Nat} {d:Nat} {q:Nm} {fr:Fr} {r:E} {s:St} {zs:List Int} {o:O (List Int)} {w:World} {F:Nat→Prop} (hr:aY w F r []) (h : o=((fns M g).es d q fr r s).bind fun l s=>.ok (zs ++ l) s) (ho : o ≠ .stuck) : o = .ok zs s:=by
 cases r with
 | nil=>
  cases g with
  | zero=>exact absurd h ho
  | succ g'=>rw [h];show O.ok (zs ++ []) s=_;rw [List.append_nil]
 | cons x r=>obtain⟨u,vs,he,_⟩:=hr;cases he
 | num p n=>obtain⟨b,he,_⟩:=hr;cases he
 | var p m n=>obtain⟨b,he,_⟩:=hr;cases he
 | item p m n i=>obtain⟨b,u,he,_⟩:=hr;cases he
 | un p op x=>obtain⟨b,u,he,_⟩:=hr;cases he
 | bin p op x y=>obtain⟨b,u,v,he,_⟩:=hr;cases he
 | app p m n l=>obtain⟨b,a,c,vs,he,_⟩:=hr;cases he
theorem Qg {w:World} {F:Nat→Prop} {r:E} {u v:Value} {vs:List Value} {M:Ms} {g:Nat} {d:Nat} {q:Nm} {fr:Fr} {s:St} (hr:aY w F r (u :: vs)) (h : (fns M g).es d q fr r s ≠ .stuck) : ∃ x r',r = .cons x r'∧aY w F x [u]∧aY w F r' vs:=by
 cases r with
 | cons x r'=>
  obtain⟨u',vs',he,h1,h2⟩:=hr;cases he
  exact⟨x,r',rfl,h1,h2⟩
 | nil=>cases hr
 | num p n=>cases g <;> exact absurd rfl h
 | var p m n=>cases g <;> exact absurd rfl h
 | item p m n i=>cases g <;> exact absurd rfl h
 | un p op x=>cases g <;> exact absurd rfl h
 | bin p op x y=>cases g <;> exact absurd rfl h
 | app p m n l=>cases g <;> exact absurd rfl h
theorem Qh {w:World} {F:Nat→Prop} {l:E} : ∀ {vs:List Value},aY w F l vs→vs.length≤dx l + 1:=by
 induction l with
 | cons x r _ ih=>rintro vs ⟨u,vs',rfl,_,h⟩;have:=ih h;simp [dx];omega
 | nil=>intro vs h;rw [show vs=[] from h];simp
 | num p n=>rintro vs ⟨b,rfl,_⟩;simp
 | var p m n=>rintro vs ⟨b,rfl,_⟩;simp
 | item p m n i=>rintro vs ⟨b,u,rfl,_⟩;simp
 | un p op x=>rintro vs ⟨b,u,rfl,_⟩;simp
 | bin p op x y=>rintro vs ⟨b,u,v,rfl,_⟩;simp
 | app p m n l=>rintro vs ⟨b,a,c,vs',rfl,_⟩;simp
theorem Dc {w:World} {F:Nat→Prop} {a:Option Addr} {vs:List Value} {k:Nat} (h:Row w F a vs) (hk : k < vs.length) : ∃ bb off,a=some ⟨bb,off,none⟩∧w.cell? ⟨bb,off + k,none⟩=some vs[k]:=by
 obtain⟨bb,off,rfl,hc⟩:=h.at_ (by omega);exact⟨bb,off,rfl,hc k _ (List.getElem?_eq_getElem hk)⟩
end Go.Mq.Run
namespace Go.Proofs.YtechofppmnnomaaGreatDoor
open Go Go.RowKit Go.Mq Go.Mq.Tree Go.Mq.Run
open Go.Mq.Check (fI cu bK dx ik)
open Go.Mq.Sym (uN)
set_option maxRecDepth 100000
set_option maxHeartbeats 4000000
theorem AR : (Tryz.prog.info? bO).map (fun i=>(i.zero,i.size,i.bytes))=some (some (num 0),1,8):=by kernel_rfl
theorem Zx (g:Nat) (hE : ∀ g',g'≤g→jd g') (hC:yM g) {L:Lay} {d:Nat} {q:Nm} {fr:Fr} {p:Nat} {s:St} {w:World} {ov:Value} {ob:Option Nat} {u:Value} {m:Mod} {n:Nm} {l:E} {mq:Mod} {pr:aX} (h:Going w L d s ov) (hq:L.M q=some m) (hfr:eG w ob fr) (hx:aY w L.Fix (.app p [] n l) [u]) (hfe : dx l≤1000∧bK l) (eB:L.M q=some mq) (hfind : mq.procs.find? (fun p=>p.name == n)=some pr) (ho : (fns L.M (g + 1)).e d q fr (.app p [] n l) s ≠ .stuck) :
  Calls Tryz.prog 117 #[ptr L.br,ptr (L.pb q),.map ob,u] w (aj w L d ov [] (fun _ n e=>e = .returned (num n)) ((fns L.M (g + 1)).e d q fr (.app p [] n l) s)):=by
 obtain⟨b,ax,cx,vs,he,hF,hb,Gs,hrow,hxl⟩:=hx;cases he
 obtain⟨wA,az⟩ : ∃ x,w.alloc (.cells #[ptr b] 166)=x:=⟨_,rfl⟩
 have hc0:ae [] w wA:=by rw [← az];exact(ae.refl _ _).alloc _
 have hb0:=hb.kept hc0 (by simp);have hbx:ag wA w.heap.size #[ptr b] 166:=by rw [← az];exact ag.new w #[ptr b] 166
 have b0:=hbx.cell 0 _ rfl;have HX:=zh hb0;have gJ:=zh hbx;have HF:=zh hF;have d0:=hb0.cell 0 _ rfl;have d3:=hb0.cell 3 _ rfl;have d8:=hb0.cell 8 _ rfl;have aF:=zh hc0;have H:=zh (h.kept hc0);have cB:=zh (hfr.kept hc0 (by simp));obtain⟨tgt,ht⟩ : ∃ o,o=(fns L.M (g + 1)).e d q fr (.app p [] n l) s:=⟨_,rfl⟩
 have ht2 : tgt=((fns L.M g).es d q fr l s).bind (fun args s=>(fns L.M g).c d q pr args s):=by
  have hw : dC q []=q:=rfl;rw [ht,Qd];rw [hw,eB];simp only [hfind]
 rw [← ht] at ho ⊢;obtain⟨oe,hoe⟩ : ∃ o,o=(fns L.M g).es d q fr l s:=⟨_,rfl⟩
 rw [← hoe] at ht2;have hone : oe ≠ .stuck:=fun hs=>ho (by rw [ht2,hs];rfl)
 have De : oe=((fns L.M g).es d q fr l s).bind fun l s=>.ok ([] ++ l) s:=by
  rw [hoe];cases (fns L.M g).es d q fr l s <;> rfl
 have hlen : vs.length≤1001:=by have:=Qh hxl;have:=hfe.1;omega
 have Kb:=zh De;have nO:=zh hone;have HT2:=zh ht2;have iE:=zh hfe.2;have HQ:=zh hq;obtain⟨wB,fA⟩ : ∃ x,x=wA:=⟨_,rfl⟩
 have hcB:ae [] wA wB:=by rw [fA];exact ae.refl [] wA
 have iH:=zh hcB;have gF:=zh (H.out.kept hcB);have Df:=zh (cB.out.kept hcB (by simp));have HX0:=zh (hb0.kept hcB (by simp));have uS:=zh (hbx.kept hcB (by simp));have iD:=zh ((hrow.kept hc0 (by simp)).kept hcB (by simp));have Kc:=zh ((hxl.kept hc0 (by simp)).kept hcB (by simp));have q0:=uS.out.cell 0 _ rfl;have e0:=HX0.out.cell 0 _ rfl;have e8:=HX0.out.cell 8 _ rfl;have xm:=gF.out.run.lt;have AU:=zh xm;have Ke:=zh hfind;have y9:=zh eB;have l7:=zh hF;subst fA;clear h hb hb0 hc0 hfr hxl hbx ht hq hfe eB hcB hrow ht2 hoe De hone hfind xm;have mO : ∀ (fn:Fn) (first cap:Array Value) (w:World),(Instr.makeFunc fn first cap).run Tryz.prog w = .ok (.func fn first cap) w:=fun _ _ _ _=>rfl
 go_enter Tryz.func117,Tryz.ntmps117
 go_wp2_with fail;clear az;have kV:=zh hlen;clear q0 e0 e8 b0 d0 d3 d8
 go_loopw [13,15,128] (fun av _ i wr=>∃ (k:Nat) (r:E) (zs:List Int) (s':St) (g':Nat) (aR:Value),i = .int .i64 k∧k≤vs.length∧zs.length=k∧aY wr L.Fix r (vs.drop k)∧bK r∧wr.ownsRow 0 bO 1 av zs.length (ints zs)∧From wB.heap.size av∧(∀ x∈blk av,x∉aL L aR)∧Going wr L d s' aR∧dS wB ov aR∧ae (aL L ov) wB wr∧g'≤g∧oe=((fns L.M g').es d q fr r s').bind fun l s=>.ok (zs ++ l) s) (fun _ _ i _=>vs.length - (intOf i).toNat)
 case atStart=>exact⟨0,l,[],s,g,ov,rfl,Nat.zero_le _,rfl,Kc.out,iE.out,World.ownsRow_nil _ _ _ _,From.nil _,(fun x hx=>by cases hx),gF.out,dS.refl _ _,ae.refl _ _,Nat.le_refl _,Kb.out⟩
 case round=>
  obtain⟨k,r,zs,s',g',aR,rfl,hk,Dh,hrl,hrf,hown,tT,hnot,hg,hm,hc,hgg,hoe⟩:=hrel;obtain⟨aa,ca,rfl⟩:=gu hown;have HOWN:=zh hown;have za:=zh tT;have zb:=zh hnot;have HG:=zh hg;have HM:=zh hm;have HC:=zh hc;have hlen:=kV.out;have uT:=zh Dh;clear Dh;have qV : w.heap.size∉aL L ov:=gF.out.gQ uS.out (by decide) (by decide);have hnx : b∉aL L ov:=fun hm=>gF.out.dz b hm l7.out
  have hs0:=hc.size;have AV:=zh hs0;by_cases hlt : k < vs.length
  ·obtain⟨bb,off,rfl,hcell⟩:=Dc (iD.out.kept hc (by simpa using gF.out.dz)) hlt
   rw [List.drop_eq_getElem_cons hlt] at hrl;obtain⟨x,r',rfl,hx1,hr1⟩:=Qg (v:=aJ) hrl (fun hs=>nO.out (by rw [hoe,hs];rfl));obtain⟨uk,Di⟩ : ∃ z,z=vs[k]:=⟨_,rfl⟩
   rw [← Di] at hx1 hcell;obtain⟨g2,rfl,uU⟩:=Qe hoe nO.out;have HR1:=zh hr1;have Kg:=zh hrf.2;have ze:=zh uU;have q0:=(uS.out.kept hc qV).cell 0 _ rfl;have bS:=zh (hE g2 (by omega) hg HQ.out (Df.out.kept hc (Df.out.iC gF.out)) hx1 hrf.1 (fun hs=>nO.out (by rw [uU,hs];rfl)));clear hown tT hnot hg hm hc hoe hx1 hr1 hrf Di qV hnx;cases hr : (fns L.M g2).e d q fr x s' with
   | stuck=>exact absurd (by rw [ze.out,hr];rfl) nO.out
   | stop way s2=>
    rw [hr] at bS;have HT:=zh (show tgt = .stop way s2 by rw [HT2.out,ze.out,hr];rfl);clear hr uU;go_wp2_with fail;refine bS.out.mono ?_;rintro e w1 ⟨bU,hm,hc,⟨older,hol,rfl⟩,d',hg⟩;have zf:=zh hm;have cZ:=zh hc;have dG:=zh hg;clear hm hc hg;go_wp2_with fail;refine⟨rfl,?_⟩;rw [HT.out];exact aj.after (aj.after (aj.then HM.out HC.out (aj.ended zf.out cZ.out dG.out (ae.refl _ _) ⟨older,hol,rfl⟩)) iH.out) aF.out
   | ok v s2=>
    rw [hr] at bS;have Kh:=zh (show oe=((fns L.M g2).es d q fr r' s2).bind fun l s=>.ok ((zs ++ [v]) ++ l) s by rw [ze.out,hr];rfl);clear hr uU;go_wp2_with fail;refine bS.out.mono ?_;rintro e w1 ⟨bU,hm,hc,rfl,hg⟩;have zf:=zh hm;have cZ:=zh hc;have dG:=zh hg;have hs1:=hc.size;have Ki:=zh (cK HOWN.out hc (fun y hy=>by simpa using zb.out y hy));have Dj:=zh (fun y (hy : y∈blk (.slice aa zs.length ca))=>lH (L:=L) hm (pM HOWN.out y hy) (zb.out y hy));have HR2:=zh (HR1.out.kept hc (by simpa using HG.out.dz));clear hm hc hg;have nP:=zh (cK Ki.out ((ae.refl [] w1).alloc (.cells #[num v] bO)) (by simp));go_wp2_with (at_builtin;go_must (refine pO rfl _ _ 41 rfl bO _ 1 8 AR Tryz.underlying41 rfl (by decide) _ zs.length (ints zs) rfl nP.out ⟨w1.heap.size,0,none⟩ 1 1 [num v] rfl rfl (Aj _ _ _) (by simp [Value.oneCell']) ?_ ?_ ?_))
    ·have:=uT.out;omega
    ·have:=uT.out;unfold maxLen;omega
    ·intro v' w' hown' hch' bX
     have iQ:=zh hown';have qN:=zh hch';have iI:=zh bX;obtain⟨va,vc,rfl⟩:=gu hown';clear hown' hch' bX;go_wp2_with fail;have aO:ae [] w1 (w1.alloc (.cells #[num v] bO)):=(ae.refl [] w1).alloc _;have hnz : ∀ y∈blk (.slice aa zs.length ca),y∉aL L bU∧¬ L.Fix y:=fun y hy=>⟨Dj.out y hy,fun hf=>by have:=gF.out.lay.fix hf;have:=za.out y hy;have:=AU.out;omega⟩
     refine⟨⟨k + 1,r',zs ++ [v],s2,g2,bU,by go_num,by omega,by rw [List.length_append,uT.out];rfl,?_,Kg.out,by rw [List.length_append,ints,List.map_append];exact iQ.out,fun y hy=>?_,fun y hy=>?_,(dG.out.kept aO).aside qN.out hnz,HM.out.trans HC.out zf.out,?_,by omega,Kh.out⟩,by simp [intOf];omega⟩
     ·exact(HR2.out.kept aO (by simp)).kept qN.out (fun y hy=>(hnz y hy).2)
     ·rcases iI.out y hy with h|h
      ·exact za.out y h
      ·have:=AV.out;simp at h;omega
     ·rcases iI.out y hy with h|h
      ·exact Dj.out y h
      ·intro hmm;have:=dG.out.lt y hmm;simp at h;omega
     ·have h1:ae (aL L ov) wB w1:=HC.out.trans cZ.out (fun y hy=>FX HC.out HM.out y (by simpa using hy))
      exact(h1.then aO.weak).trans qN.out (fun y hy=>.inr (by have:=za.out y hy;omega))
  ·have hkn : k=vs.length:=by omega
   rw [hkn,List.drop_length] at hrl;have Dk:=Qf hrl hoe nO.out;have ht3 : tgt=(fns L.M g).c d q pr zs s':=by rw [HT2.out,Dk];rfl
   obtain⟨c0,c1,c2,c3,c4,bm,hpb,il,_⟩:=tQ hg y9.out;obtain⟨_,bp,bR,_,_,_,_,hall⟩:=hg.stat;have iX:=hall q;rw [y9.out] at iX;obtain⟨_,_,dK,ai,ci,av,cv,ap,cp,ab,cb,bv,es,h3,h4,_⟩:=iX;have hb3:=h3.cell 3 _ rfl;obtain⟨vi,vv,vp,vb,nQ,_,_,hpr,_⟩:=h4;cases nQ
   have q0:=(uS.out.kept hc qV).cell 0 _ rfl;have AX:=zh (Qc mq.procs dK.procs n b w.heap.size (.int .i64 6) (.int .i64 p) (.int .i64 0) (str []) (str []) aJ aJ (.slice ax vs.length cx) L.Fix _ wr (uN hpr) q0 (HX0.out.kept hc hnx));have oO:=zh hpr;have HB3:=zh h3;have qc:=zh dK;have HT3:=zh ht3;have hne : tgt ≠ .stuck:=ho;have df:=zh hne;clear hown tT hnot hg hm hc hoe hrl Dk ht3 hpb il hall h3 hpr dK qV hnx hne;go_wp2_with fail;refine AX.out.mono ?_;rintro e w1 ⟨hat,hc1⟩;rw [ik,Ke.out] at hat;obtain⟨kk,hkk,rfl⟩:=hat;have cZ:=zh hc1;have dG:=zh (HG.out.kept hc1);have Dl:=oO.out.kept hc1 (by simp);obtain⟨bb,off,cc,Kj,Kk,Kl,hsl,hcc,d0,d1,d2,d3,d4,d5,hn1,hn2,jJ⟩:=Gg Dl hkk;simp only [Value.slice.injEq,true_and] at hsl;obtain⟨rfl,rfl⟩:=hsl;have hb3:=(HB3.out.kept hc1 (by simp)).cell 3 _ rfl;have hkl:=(List.getElem?_eq_some_iff.1 hkk).1;have hmem : pr∈mq.procs:=List.mem_of_getElem? hkk;have hpl:=qc.out.procs;obtain⟨hb1,hb2⟩:=qc.out.bodies pr hmem;obtain⟨hp1,hp2⟩:=qc.out.params pr hmem;have Dm:Row w1 (fun y=>y∉aL L aR) aa (ints zs):=by
    obtain⟨a',c',he,_,hr⟩:=Row.jF (F:=fun y=>y∉aL L aR) HOWN.out zb.out;cases he
    exact hr.kept hc1 (by simp)
   have gK:=zh (hC dG.out y9.out hn1 hn2 jJ hb1 hb2 (by omega) (by omega) (c:=ca) Dm (by have:=kV.out;have:=uT.out;omega) (fun hs=>df.out (by rw [HT3.out];exact hs)));clear hc1 Dl hkk hn1 hn2 jJ Dm hb1 hb2 hmem hpl;go_wp2_with fail;refine gK.out.mono ?_;intro e w2 he;rw [← HT3.out] at he;have je:=aj.after (aj.after (aj.then HM.out HC.out (aj.after he cZ.out)) iH.out) aF.out;have aW:=zh je;obtain⟨_,_,_,hres⟩:=je;clear he;cases tgt with
   | stuck=>exact absurd rfl df.out
   | stop way s9=>
    obtain⟨⟨older,hol,rfl⟩,_⟩:=hres;clear hol;go_wp2_with fail;exact⟨rfl,aW.out⟩
   | ok v s9=>
    obtain⟨rfl,_⟩:=hres;go_wp2_with fail;go_ret
    exact aW.out
theorem Zy (g:Nat) (hE : ∀ g',g'≤g→jd g') (hC:yM g) {L:Lay} {d:Nat} {q:Nm} {fr:Fr} {p:Nat} {s:St} {w:World} {ov:Value} {ob:Option Nat} {u:Value} {m:Mod} {mm:Nm} {n:Nm} {l:E} {mq:Mod} {pr:aX} (h:Going w L d s ov) (hq:L.M q=some m) (hfr:eG w ob fr) (hx:aY w L.Fix (.app p mm n l) [u]) (hfe : dx l≤1000∧bK l) (hmm : mm≠[]) (eB:L.M mm=some mq) (hfind : mq.procs.find? (fun p=>p.name == n)=some pr) (ho : (fns L.M (g + 1)).e d q fr (.app p mm n l) s ≠ .stuck) :
  Calls Tryz.prog 117 #[ptr L.br,ptr (L.pb q),.map ob,u] w (aj w L d ov [] (fun _ n e=>e = .returned (num n)) ((fns L.M (g + 1)).e d q fr (.app p mm n l) s)):=by
 obtain⟨b,ax,cx,vs,he,hF,hb,Gs,hrow,hxl⟩:=hx;cases he
 obtain⟨wA,az⟩ : ∃ x,w.alloc (.cells #[ptr b] 166)=x:=⟨_,rfl⟩
 have hc0:ae [] w wA:=by rw [← az];exact(ae.refl _ _).alloc _
 have hb0:=hb.kept hc0 (by simp);have hbx:ag wA w.heap.size #[ptr b] 166:=by rw [← az];exact ag.new w #[ptr b] 166
 have b0:=hbx.cell 0 _ rfl;have HX:=zh hb0;have gJ:=zh hbx;have HF:=zh hF;have d0:=hb0.cell 0 _ rfl;have d3:=hb0.cell 3 _ rfl;have d8:=hb0.cell 8 _ rfl;have aF:=zh hc0;have H:=zh (h.kept hc0);have cB:=zh (hfr.kept hc0 (by simp));obtain⟨tgt,ht⟩ : ∃ o,o=(fns L.M (g + 1)).e d q fr (.app p mm n l) s:=⟨_,rfl⟩
 have ht2 : tgt=((fns L.M g).es d q fr l s).bind (fun args s=>(fns L.M g).c d mm pr args s):=by
  have hw : dC q mm=mm:=by rw [dC,if_neg hmm]
  rw [ht,Qd];rw [hw,eB];simp only [hfind]
 rw [← ht] at ho ⊢;obtain⟨oe,hoe⟩ : ∃ o,o=(fns L.M g).es d q fr l s:=⟨_,rfl⟩
 rw [← hoe] at ht2;have hone : oe ≠ .stuck:=fun hs=>ho (by rw [ht2,hs];rfl)
 have De : oe=((fns L.M g).es d q fr l s).bind fun l s=>.ok ([] ++ l) s:=by
  rw [hoe];cases (fns L.M g).es d q fr l s <;> rfl
 have hlen : vs.length≤1001:=by have:=Qh hxl;have:=hfe.1;omega
 have Kb:=zh De;have nO:=zh hone;have HT2:=zh ht2;have iE:=zh hfe.2;have HQ:=zh hq;obtain⟨wB,fA⟩ : ∃ x,x=wA.drew:=⟨_,rfl⟩
 have hcB:ae [] wA wB:=by rw [fA];exact(ae.refl [] wA).drew
 have iH:=zh hcB;have gF:=zh (H.out.kept hcB);have Df:=zh (cB.out.kept hcB (by simp));have HX0:=zh (hb0.kept hcB (by simp));have uS:=zh (hbx.kept hcB (by simp));have iD:=zh ((hrow.kept hc0 (by simp)).kept hcB (by simp));have Kc:=zh ((hxl.kept hc0 (by simp)).kept hcB (by simp));have q0:=uS.out.cell 0 _ rfl;have e0:=HX0.out.cell 0 _ rfl;have e8:=HX0.out.cell 8 _ rfl;have xm:=gF.out.run.lt;have AU:=zh xm;have Ke:=zh hfind;have y9:=zh eB;have l7:=zh hF;have r0:=H.out.run.cell 0 _ rfl;obtain⟨bp,J9,hwb,hwf,jw⟩:=Gl H.out;have w0:=hwb.cell 0 _ rfl;have hl0:=jw wA.drew [] (ae.refl _ _).drew (by simp) mm;rw [eB] at hl0;simp only at hl0;have hm1 : (mm == [])=false:=by simpa using hmm
 have hm2 : (mm != [])=true:=by simpa using hmm
 clear jw hwb hwf hmm;clear h hb hb0 hc0 hfr hxl hbx ht hq hfe eB hcB hrow ht2 hoe De hone hfind xm;have mO : ∀ (fn:Fn) (first cap:Array Value) (w:World),(Instr.makeFunc fn first cap).run Tryz.prog w = .ok (.func fn first cap) w:=fun _ _ _ _=>rfl
 go_enter Tryz.func117,Tryz.ntmps117
 go_wp2_with fail
 go_region
 all_goals (try go_wp2_with fail)
 rw [← fA];clear fA hm1 hm2 r0 w0 hl0;clear az;have kV:=zh hlen;clear q0 e0 e8 b0 d0 d3 d8
 go_loopw [13,15,128] (fun av _ i wr=>∃ (k:Nat) (r:E) (zs:List Int) (s':St) (g':Nat) (aR:Value),i = .int .i64 k∧k≤vs.length∧zs.length=k∧aY wr L.Fix r (vs.drop k)∧bK r∧wr.ownsRow 0 bO 1 av zs.length (ints zs)∧From wB.heap.size av∧(∀ x∈blk av,x∉aL L aR)∧Going wr L d s' aR∧dS wB ov aR∧ae (aL L ov) wB wr∧g'≤g∧oe=((fns L.M g').es d q fr r s').bind fun l s=>.ok (zs ++ l) s) (fun _ _ i _=>vs.length - (intOf i).toNat)
 case atStart=>exact⟨0,l,[],s,g,ov,rfl,Nat.zero_le _,rfl,Kc.out,iE.out,World.ownsRow_nil _ _ _ _,From.nil _,(fun x hx=>by cases hx),gF.out,dS.refl _ _,ae.refl _ _,Nat.le_refl _,Kb.out⟩
 case round=>
  obtain⟨k,r,zs,s',g',aR,rfl,hk,Dh,hrl,hrf,hown,tT,hnot,hg,hm,hc,hgg,hoe⟩:=hrel;obtain⟨aa,ca,rfl⟩:=gu hown;have HOWN:=zh hown;have za:=zh tT;have zb:=zh hnot;have HG:=zh hg;have HM:=zh hm;have HC:=zh hc;have hlen:=kV.out;have uT:=zh Dh;clear Dh;have qV : w.heap.size∉aL L ov:=gF.out.gQ uS.out (by decide) (by decide);have hnx : b∉aL L ov:=fun hm=>gF.out.dz b hm l7.out
  have hs0:=hc.size;have AV:=zh hs0;by_cases hlt : k < vs.length
  ·obtain⟨bb,off,rfl,hcell⟩:=Dc (iD.out.kept hc (by simpa using gF.out.dz)) hlt
   rw [List.drop_eq_getElem_cons hlt] at hrl;obtain⟨x,r',rfl,hx1,hr1⟩:=Qg (v:=aJ) hrl (fun hs=>nO.out (by rw [hoe,hs];rfl));obtain⟨uk,Di⟩ : ∃ z,z=vs[k]:=⟨_,rfl⟩
   rw [← Di] at hx1 hcell;obtain⟨g2,rfl,uU⟩:=Qe hoe nO.out;have HR1:=zh hr1;have Kg:=zh hrf.2;have ze:=zh uU;have q0:=(uS.out.kept hc qV).cell 0 _ rfl;have bS:=zh (hE g2 (by omega) hg HQ.out (Df.out.kept hc (Df.out.iC gF.out)) hx1 hrf.1 (fun hs=>nO.out (by rw [uU,hs];rfl)));clear hown tT hnot hg hm hc hoe hx1 hr1 hrf Di qV hnx;cases hr : (fns L.M g2).e d q fr x s' with
   | stuck=>exact absurd (by rw [ze.out,hr];rfl) nO.out
   | stop way s2=>
    rw [hr] at bS;have HT:=zh (show tgt = .stop way s2 by rw [HT2.out,ze.out,hr];rfl);clear hr uU;go_wp2_with fail;refine bS.out.mono ?_;rintro e w1 ⟨bU,hm,hc,⟨older,hol,rfl⟩,d',hg⟩;have zf:=zh hm;have cZ:=zh hc;have dG:=zh hg;clear hm hc hg;go_wp2_with fail;refine⟨rfl,?_⟩;rw [HT.out];exact aj.after (aj.after (aj.then HM.out HC.out (aj.ended zf.out cZ.out dG.out (ae.refl _ _) ⟨older,hol,rfl⟩)) iH.out) aF.out
   | ok v s2=>
    rw [hr] at bS;have Kh:=zh (show oe=((fns L.M g2).es d q fr r' s2).bind fun l s=>.ok ((zs ++ [v]) ++ l) s by rw [ze.out,hr];rfl);clear hr uU;go_wp2_with fail;refine bS.out.mono ?_;rintro e w1 ⟨bU,hm,hc,rfl,hg⟩;have zf:=zh hm;have cZ:=zh hc;have dG:=zh hg;have hs1:=hc.size;have Ki:=zh (cK HOWN.out hc (fun y hy=>by simpa using zb.out y hy));have Dj:=zh (fun y (hy : y∈blk (.slice aa zs.length ca))=>lH (L:=L) hm (pM HOWN.out y hy) (zb.out y hy));have HR2:=zh (HR1.out.kept hc (by simpa using HG.out.dz));clear hm hc hg;have nP:=zh (cK Ki.out ((ae.refl [] w1).alloc (.cells #[num v] bO)) (by simp));go_wp2_with (at_builtin;go_must (refine pO rfl _ _ 41 rfl bO _ 1 8 AR Tryz.underlying41 rfl (by decide) _ zs.length (ints zs) rfl nP.out ⟨w1.heap.size,0,none⟩ 1 1 [num v] rfl rfl (Aj _ _ _) (by simp [Value.oneCell']) ?_ ?_ ?_))
    ·have:=uT.out;omega
    ·have:=uT.out;unfold maxLen;omega
    ·intro v' w' hown' hch' bX
     have iQ:=zh hown';have qN:=zh hch';have iI:=zh bX;obtain⟨va,vc,rfl⟩:=gu hown';clear hown' hch' bX;go_wp2_with fail;have aO:ae [] w1 (w1.alloc (.cells #[num v] bO)):=(ae.refl [] w1).alloc _;have hnz : ∀ y∈blk (.slice aa zs.length ca),y∉aL L bU∧¬ L.Fix y:=fun y hy=>⟨Dj.out y hy,fun hf=>by have:=gF.out.lay.fix hf;have:=za.out y hy;have:=AU.out;omega⟩
     refine⟨⟨k + 1,r',zs ++ [v],s2,g2,bU,by go_num,by omega,by rw [List.length_append,uT.out];rfl,?_,Kg.out,by rw [List.length_append,ints,List.map_append];exact iQ.out,fun y hy=>?_,fun y hy=>?_,(dG.out.kept aO).aside qN.out hnz,HM.out.trans HC.out zf.out,?_,by omega,Kh.out⟩,by simp [intOf];omega⟩
     ·exact(HR2.out.kept aO (by simp)).kept qN.out (fun y hy=>(hnz y hy).2)
     ·rcases iI.out y hy with h|h
      ·exact za.out y h
      ·have:=AV.out;simp at h;omega
     ·rcases iI.out y hy with h|h
      ·exact Dj.out y h
      ·intro hmm;have:=dG.out.lt y hmm;simp at h;omega
     ·have h1:ae (aL L ov) wB w1:=HC.out.trans cZ.out (fun y hy=>FX HC.out HM.out y (by simpa using hy))
      exact(h1.then aO.weak).trans qN.out (fun y hy=>.inr (by have:=za.out y hy;omega))
  ·have hkn : k=vs.length:=by omega
   rw [hkn,List.drop_length] at hrl;have Dk:=Qf hrl hoe nO.out;have ht3 : tgt=(fns L.M g).c d mm pr zs s':=by rw [HT2.out,Dk];rfl
   obtain⟨c0,c1,c2,c3,c4,bm,hpb,il,_⟩:=tQ hg y9.out;obtain⟨_,bp,bR,_,_,_,_,hall⟩:=hg.stat;have iX:=hall mm;rw [y9.out] at iX;obtain⟨_,_,dK,ai,ci,av,cv,ap,cp,ab,cb,bv,es,h3,h4,_⟩:=iX;have hb3:=h3.cell 3 _ rfl;obtain⟨vi,vv,vp,vb,nQ,_,_,hpr,_⟩:=h4;cases nQ
   have q0:=(uS.out.kept hc qV).cell 0 _ rfl;have AX:=zh (Qc mq.procs dK.procs n b w.heap.size (.int .i64 6) (.int .i64 p) (.int .i64 0) (str mm) (str []) aJ aJ (.slice ax vs.length cx) L.Fix _ wr (uN hpr) q0 (HX0.out.kept hc hnx));have oO:=zh hpr;have HB3:=zh h3;have qc:=zh dK;have HT3:=zh ht3;have hne : tgt ≠ .stuck:=ho;have df:=zh hne;clear hown tT hnot hg hm hc hoe hrl Dk ht3 hpb il hall h3 hpr dK qV hnx hne;go_wp2_with fail;refine AX.out.mono ?_;rintro e w1 ⟨hat,hc1⟩;rw [ik,Ke.out] at hat;obtain⟨kk,hkk,rfl⟩:=hat;have cZ:=zh hc1;have dG:=zh (HG.out.kept hc1);have Dl:=oO.out.kept hc1 (by simp);obtain⟨bb,off,cc,Kj,Kk,Kl,hsl,hcc,d0,d1,d2,d3,d4,d5,hn1,hn2,jJ⟩:=Gg Dl hkk;simp only [Value.slice.injEq,true_and] at hsl;obtain⟨rfl,rfl⟩:=hsl;have hb3:=(HB3.out.kept hc1 (by simp)).cell 3 _ rfl;have hkl:=(List.getElem?_eq_some_iff.1 hkk).1;have hmem : pr∈mq.procs:=List.mem_of_getElem? hkk;have hpl:=qc.out.procs;obtain⟨hb1,hb2⟩:=qc.out.bodies pr hmem;obtain⟨hp1,hp2⟩:=qc.out.params pr hmem;have Dm:Row w1 (fun y=>y∉aL L aR) aa (ints zs):=by
    obtain⟨a',c',he,_,hr⟩:=Row.jF (F:=fun y=>y∉aL L aR) HOWN.out zb.out;cases he
    exact hr.kept hc1 (by simp)
   have gK:=zh (hC dG.out y9.out hn1 hn2 jJ hb1 hb2 (by omega) (by omega) (c:=ca) Dm (by have:=kV.out;have:=uT.out;omega) (fun hs=>df.out (by rw [HT3.out];exact hs)));clear hc1 Dl hkk hn1 hn2 jJ Dm hb1 hb2 hmem hpl;go_wp2_with fail;refine gK.out.mono ?_;intro e w2 he;rw [← HT3.out] at he;have je:=aj.after (aj.after (aj.then HM.out HC.out (aj.after he cZ.out)) iH.out) aF.out;have aW:=zh je;obtain⟨_,_,_,hres⟩:=je;clear he;cases tgt with
   | stuck=>exact absurd rfl df.out
   | stop way s9=>
    obtain⟨⟨older,hol,rfl⟩,_⟩:=hres;clear hol;go_wp2_with fail;exact⟨rfl,aW.out⟩
   | ok v s9=>
    obtain⟨rfl,_⟩:=hres;go_wp2_with fail;go_ret
    exact aW.out
end Go.Proofs.YtechofppmnnomaaGreatDoor
namespace Go.Proofs.YtechofppmnnomaaGreatDoor
open Go Go.RowKit Go.Mq Go.Mq.Tree Go.Mq.Run
open Go.Mq.Check (fI cu bK dx)
set_option maxRecDepth 100000
theorem Zz:jd 0:=fun _ _ _ _ _ ho=>absurd rfl ho
theorem ZA (g:Nat) (hE : ∀ g',g'≤g→jd g') (hC:yM g):jd (g + 1):=by
 intro L d q fr x s w ov ob u m h hq hfr hx hfe ho;cases x with
 | num p n=>exact Zj g h hx
 | var p mm n=>
  by_cases hm : mm=[]
  ·subst hm
   cases hv : eH fr n with
   | some v=>
    have he : (fns L.M (g + 1)).e d q fr (.var p [] n) s = .ok v s:=by
     show (match eH fr n with
      | some v=>O.ok v s
      | none=>jv (s.vs q n) s)=_
     rw [hv]
    rw [he];exact Zk h hfr hx hv
   | none=>
    have he : (fns L.M (g + 1)).e d q fr (.var p [] n) s=jv (s.vs q n) s:=by
     show (match eH fr n with
      | some v=>O.ok v s
      | none=>jv (s.vs q n) s)=_
     rw [hv]
    rw [he] at ho ⊢;obtain⟨v,hv2⟩:=Qb ho;rw [hv2];exact Zl h hfr hx hv hv2
  ·have he : (fns L.M (g + 1)).e d q fr (.var p mm n) s=jv (s.vs mm n) s:=by
    show (if mm=[] then _ else _)=_
    rw [if_neg hm]
   rw [he] at ho ⊢;obtain⟨v,hv2⟩:=Qb ho;rw [hv2];exact Zm h hfr hx hm hv2
 | item p mm n i=>
  cases eB:L.M (dC q mm) with
  | none=>exact absurd (by show (if (L.M (dC q mm)).isSome then _ else _)=_;rw [eB];rfl) ho
  | some mq=>
   by_cases hm : mm=[]
   ·subst hm
    cases hd:L.au q n with
    | none=>exact Zt g (hE g (Nat.le_refl _)) h hq hfr hx hfe eB hd ho
    | some x=>exact Zr g (hE g (Nat.le_refl _)) h hq hfr hx hfe eB hd ho
   ·rw [dC,if_neg hm] at eB
    cases hd:L.au mm n with
    | none=>exact Zv g (hE g (Nat.le_refl _)) h hq hfr hx hfe hm eB hd ho
    | some x=>exact Zu g (hE g (Nat.le_refl _)) h hq hfr hx hfe hm eB hd ho
 | un p op x=>exact Zn g (hE g (Nat.le_refl _)) h hq hfr hx hfe ho
 | bin p op x y=>
  by_cases h1 : op=[97,110,100]
  ·subst h1
   exact Zo g (hE g (Nat.le_refl _)) h hq hfr hx hfe ho
  ·by_cases h2 : op=[111,114]
   ·subst h2
    exact Zp g (hE g (Nat.le_refl _)) h hq hfr hx hfe ho
   ·exact Zq g (hE g (Nat.le_refl _)) h hq hfr hx hfe h1 h2 ho
 | app p mm n l=>
  have hs : (fns L.M (g + 1)).e d q fr (.app p mm n l) s=match L.M (dC q mm) with
   | none=>.stuck
   | some mo=>match mo.procs.find? fun p=>p.name == n with
    | none=>.stuck
    | some p=>((fns L.M g).es d q fr l s).bind fun args s=>(fns L.M g).c d (dC q mm) p args s:=rfl
  cases eB:L.M (dC q mm) with
  | none=>exact absurd (by rw [hs,eB]) ho
  | some mq=>
   cases hf : mq.procs.find? fun p=>p.name == n with
   | none=>exact absurd (by rw [hs,eB];simp only [hf]) ho
   | some pr=>
    by_cases hm : mm=[]
    ·subst hm
     exact Zx g hE hC h hq hfr hx hfe eB hf ho
    ·rw [dC,if_neg hm] at eB
     exact Zy g hE hC h hq hfr hx hfe hm eB hf ho
 | nil=>exact absurd rfl ho
 | cons x r=>exact absurd rfl ho
end Go.Proofs.YtechofppmnnomaaGreatDoor
