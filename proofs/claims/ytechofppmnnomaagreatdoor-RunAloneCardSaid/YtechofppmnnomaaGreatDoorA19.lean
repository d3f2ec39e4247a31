/- Some texts in one. -/
import Derived.Test.YtechofppmnnomaaGreatDoorA5
import Derived.Test.YtechofppmnnomaaGreatDoorA11
import Derived.Test.YtechofppmnnomaaGreatDoorA15
import Derived.Test.YtechofppmnnomaaGreatDoorA18
namespace Go.Mq.Run
open Go Go.RowKit Go.Mq Go.Mq.Tree
open Go.Mq.fu (bA getM dG)
open Go.Mq.Sym (yO)
section
variable {w w':World} {L:Lay} {d:Nat} {s:St} {ov aP:Value}
theorem Ki (h:Going w L d s ov):L.br∉blk ov:=fun hm=>by have:=h.from_ _ hm;omega
theorem AU (h:Going w L d s ov):L.br∉L.au:=fun hm=>by have:=(h.lay.au hm).2;omega
theorem Kj (h:Going w L d s ov) {b:Nat} (hb : b∈L.au) : b∉blk ov:=fun hm=>by have:=h.from_ _ hm;have:=(h.lay.au hb).2;omega
theorem Kk (h:Going w L d s ov) : ¬ L.Fix L.br:=fun hf=>by have:=h.lay.fix hf;omega
theorem Going.Qo (h:Going w L d s ov) {f d':Nat} (hc:ae [L.br] w w') (hb:ag w' L.br #[ptr L.bw,num f,num d',ov] runT) (hd : d'≤30) (hf : f≤9223372036854775807):Going w' L d' { s with fuel:=f } ov:=
 ⟨h.lay,h.stat.kept hc (by simpa using Kk h),hb,h.dyn.kept hc fun q n b k hq=>by
  have:=(h.lay.au (h.lay.arr hq).1).2;simp;omega,fun hx=>by
  obtain⟨cs,f,hh⟩:=h.oN hx;refine⟨cs,f,?_⟩;rw [hc.block _ (Array.getElem?_eq_some_iff.1 hh).1 (by simp;intro he;subst he;exact AU h hx)];exact hh,cK h.out hc (fun g hg hm=>by simp at hm;subst hm;exact Ki h hg),h.from_,h.few,hd,hf⟩
theorem Going.told (h:Going w L d s ov) {out:List Int} (hc:ae (L.br :: blk ov) w w') (hb:ag w' L.br #[ptr L.bw,num s.fuel,num d,aP] runT) (ho : w'.ownsRow 0 bN 1 aP out.length (ints out)) (hf:From (L.br + 1) aP) (hl : out.length≤200):Going w' L d { s with out:=out } aP:=
 ⟨h.lay,h.stat.kept hc (fun x hx=>h.dz x (by
  rcases List.mem_cons.1 hx with rfl|hx
  ·exact List.mem_cons_self
  ·exact List.mem_cons_of_mem _ (List.mem_append_left _ hx))),hb,h.dyn.kept hc fun q n b k hq hm=>by
  have ha:=(h.lay.arr hq).1;rcases List.mem_cons.1 hm with rfl|hm
  ·exact AU h ha
  ·exact Kj h ha hm,fun hx=>by
  obtain⟨cs,f,hh⟩:=h.oN hx;refine⟨cs,f,?_⟩;rw [hc.block _ (Array.getElem?_eq_some_iff.1 hh).1 (fun hm=>by
   rcases List.mem_cons.1 hm with rfl|hm
   ·exact AU h hx
   ·exact Kj h hx hm)]
  exact hh,ho,hf,hl,h.deep,h.most⟩
theorem Going.put (h:Going w L d s ov) {q n:Nm} {b k i:Nat} {l:List Int} {v:Int} (hd:L.ak q n=some (b,k)) (hl : s.vs q n=some l) (hc:ae [b] w w') (hb:ag w' b (ints (l.set i v)).toArray bN):Going w' L d { s with vs:=oU s.vs q n (l.set i v) } ov:=by
 have ha:=(h.lay.arr hd).1;refine⟨h.lay,h.stat.kept hc (by simpa using (h.lay.au ha).1),h.run.kept hc (by simp;rintro rfl;exact AU h ha),fun q' n'=>?_,@fun bx hx=>?_,cK h.out hc (fun g hg hm=>by simp at hm;subst hm;exact Kj h ha hg),h.from_,h.few,h.deep,h.most⟩
 ·have:=h.dyn q' n'
  cases hq:L.ak q' n' with
  | none=>
   rw [hq] at this;simp only [oU];rw [if_neg ?_]
   ·exact this
   ·rintro⟨rfl,rfl⟩
    rw [hd] at hq;cases hq
  | some x=>
   obtain⟨b',k'⟩:=x;rw [hq] at this;obtain⟨l',h1,h2,h3⟩:=this;by_cases he : q'=q∧n'=n
   ·obtain⟨rfl,rfl⟩:=he
    rw [hd] at hq;cases hq;rw [hl] at h1;cases h1;exact⟨_,by simp [oU],by simpa using h2,hb⟩
   ·refine⟨l',by simp only [oU,if_neg he];exact h1,h2,h3.kept hc ?_⟩
    simp
    intro hbb;subst hbb;obtain⟨e1,e2⟩:=h.lay.inj hq hd;exact he ⟨e1,e2⟩
 ·by_cases he : bx=b
  ·subst he;exact⟨_,_,hb⟩
  ·obtain⟨cs,f,hh⟩:=h.oN hx
   exact⟨cs,f,by rw [hc.block _ (Array.getElem?_eq_some_iff.1 hh).1 (by simpa using he)];exact hh⟩
end
theorem Gq {w:World} {F:Nat→Prop} {l:List aX} {v:Value} (h:oG w F l v) {k:Nat} {x:aX} (hk : l[k]?=some x) :
  ∃ (bb off c:Nat) (vp vv vb:Value),v = .slice (some ⟨bb,off,none⟩) l.length c∧l.length≤c∧w.cell? ⟨bb,off + k * 6,none⟩=some (str x.name)∧w.cell? ⟨bb,off + k * 6 + 1,none⟩=some (num x.pos) ∧
   w.cell? ⟨bb,off + k * 6 + 2,none⟩=some (.bool x.seen)∧w.cell? ⟨bb,off + k * 6 + 3,none⟩=some vp∧w.cell? ⟨bb,off + k * 6 + 4,none⟩=some vv∧w.cell? ⟨bb,off + k * 6 + 5,none⟩=some vb∧eF w F x.params vp∧eF w F x.vars vv∧fQ w F x.body vb:=by
 obtain⟨a,c,cs,rfl,hlc,hrow,hps⟩:=h;have key : ∀ {l:List aX} {cs:List Value} {k:Nat} {x:aX},kF w F l cs→l[k]?=some x → ∃ cs1 c cs',cs=cs1 ++ (c ++ cs')∧cs1.length=k * 6∧pR w F x c:=by
  intro l
  induction l with
  | nil=>intro cs k x _ hk;simp at hk
  | cons y r ih=>
   intro cs k x h hk;obtain⟨c1,c2,rfl,h1,h2⟩:=h;cases k with
   | zero=>simp at hk;subst hk;exact⟨[],c1,c2,rfl,rfl,h1⟩
   | succ k=>
    obtain⟨cs1,c,cs',rfl,hl,hp⟩:=ih h2 (by simpa using hk);obtain⟨_,_,_,rfl,_⟩:=h1;exact⟨_ ++ cs1,c,cs',by rw [List.append_assoc],by simp [hl];omega,hp⟩
 obtain⟨cs1,c6,cs',rfl,hl,vp,vv,vb,rfl,h1,h2,h3⟩:=key hps hk;obtain⟨bb,off,rfl,d0,d1,d2,d3,d4,d5⟩:=yO (cs':=cs') hrow hl;exact⟨bb,off,c,vp,vv,vb,rfl,hlc,d0,d1,d2,d3,d4,d5,h1,h2,h3⟩
end Go.Mq.Run
namespace Go.Proofs.YtechofppmnnomaaGreatDoor
open Go Go.RowKit Go.Mq Go.Mq.Tree Go.Mq.Run
open Go.Mq.Check (eQ qO qP)
set_option maxRecDepth 100000
set_option maxHeartbeats 2000000
theorem ZO (op:Nm) (a b:Int) (w:World):Calls Tryz.prog 11 #[str op,num a,num b] w (fun e w'=>j3 (both op a b) e∧ae [] w w'):=by
 by_cases h : op∈allMarks
 ·simp only [allMarks,List.mem_cons,List.not_mem_nil,or_false] at h
  rcases h with rfl|rfl|rfl|rfl|rfl|rfl|rfl|rfl|rfl|rfl|rfl
  ·exact YL a b w
  ·exact YM a b w
  ·exact YN a b w
  ·exact YV a b w
  ·exact YW a b w
  ·exact YO a b w
  ·exact YP a b w
  ·exact YQ a b w
  ·exact YR a b w
  ·exact YS a b w
  ·exact YT a b w
 ·have : both op a b=some 0:=by
   simp only [allMarks,List.mem_cons,List.not_mem_nil,or_false,not_or] at h;obtain⟨h0,h1,h2,h3,h4,h5,h6,h7,h8,h9,h10⟩:=h;simp only [both,h0,h1,h2,h3,h4,h5,h6,h7,h8,h9,h10,if_false,or_self]
  rw [this];exact YU op h a b w
theorem yV {L:Lay} {d:Nat} {s:St} {ov:Value} {w:World} (h:Going w L d s ov):Calls Tryz.prog 115 #[ptr L.br] w (aj w L d ov [] (fun _ _ e=>e = .returned (.tuple #[])) (tick s)):=by
 have H:=zh h;have hb:=h.run;have c1:=hb.cell 1 _ rfl;have f1:=hb.frozen 1;cases hf : decide (s.fuel=0) with
 | true=>
  have hf0 : s.fuel=0:=of_decide_eq_true hf;have HF:=zh hf0;rw [hf0] at c1;have HS:=zh (Az 5 w);clear h hb f1 hf hf0
  go_enter Tryz.func115,Tryz.ntmps115
  go_wp2_with fail;refine HS.out.mono ?_;rintro _ _ ⟨⟨older,ho,rfl⟩,hw⟩;have hw:=hw.symm;subst hw;go_wp2_with fail;refine⟨rfl,ov,dS.refl _ _,ae.refl _ _,?_⟩;rw [tick,if_pos HF.out];exact⟨⟨older,ho,rfl⟩,d,H.out⟩
 | false=>
  have hf1 : s.fuel≠0:=of_decide_eq_false hf;have hf2 : ((s.fuel:Int) == 0)=false:=by simpa using hf1
  have HF:=zh hf1;have hm:=h.most;clear h hb hf hf1
  go_enter Tryz.func115,Tryz.ntmps115
  go_wp2_with fail;refine bodyPost_end (results_none rfl _ _ _) rfl ?_;have hx:=H.out;have hset:=hx.run.set 1 (num ((s.fuel:Int) - 1));have hch:ae [L.br] w (w.setCell ⟨L.br,1,none⟩ (num ((s.fuel:Int) - 1))):=ae.set1 _ _ _ _;refine⟨ov,dS.refl _ _,hch.mono (fun x hx=>.inl (by simp at hx;subst hx;exact List.mem_append_right _ List.mem_cons_self)),?_⟩;rw [tick,if_neg HF.out];refine⟨rfl,hx.Qo hch ?_ hx.deep (by omega)⟩;have he : ((s.fuel:Int) - 1)=((s.fuel - 1:Nat):Int):=by have:=HF.out;omega
  rw [he] at hset
  simpa [he] using hset
theorem Gr (k:Int) (w:World):Calls Tryz.prog 139 #[ah,num k] w (fun e w'=>Ay 3 e∧w'=w):=by
 have HS:=zh (Az 3 w);cases hk : decide (k < 0) with
 | true=>
  go_enter Tryz.func139,Tryz.ntmps139
  go_wp2_with fail;refine HS.out.mono ?_;rintro _ _ ⟨⟨older,ho,rfl⟩,hw⟩;have hw:=hw.symm;subst hw;go_wp2_with fail;exact⟨rfl,⟨older,ho,rfl⟩,rfl⟩
 | false=>
  have hk2 : decide ((0:Int)≤k)=true:=by simp at hk ⊢;omega
  go_enter Tryz.func139,Tryz.ntmps139
  go_wp2_with fail;refine HS.out.mono ?_;rintro _ _ ⟨⟨older,ho,rfl⟩,hw⟩;have hw:=hw.symm;subst hw;go_wp2_with fail;exact⟨rfl,⟨older,ho,rfl⟩,rfl⟩
theorem Gs (b n c:Nat) (_hn : n≤1000) (k:Int) (w:World):Calls Tryz.prog 139 #[.slice (some ⟨b,0,none⟩) n c,num k] w (fun e w'=>(if 0≤k∧k < n then e = .returned (.pointer (some ⟨b,k.toNat,none⟩)) else Ay 3 e)∧w'=w):=by
 have HS:=zh (Az 3 w);cases hk : decide (k < 0) with
 | true=>
  have hk1 : ¬ (0≤k∧k < n):=by simp at hk;omega
  simp only [if_neg hk1];clear hk1
  go_enter Tryz.func139,Tryz.ntmps139
  go_wp2_with fail;refine HS.out.mono ?_;rintro _ _ ⟨⟨older,ho,rfl⟩,hw⟩;have hw:=hw.symm;subst hw;go_wp2_with fail;exact⟨rfl,⟨older,ho,rfl⟩,rfl⟩
 | false=>
  have hk0 : 0≤k:=by simpa using hk
  obtain⟨m,rfl⟩:=Int.eq_ofNat_of_zero_le hk0;cases hm : decide ((n:Int)≤(m:Int)) with
  | true=>
   have hk1 : ¬ (0≤(m:Int)∧(m:Int) < n):=by simp at hm;omega
   simp only [if_neg hk1];have p8 : n≤m:=by simp at hm;omega
   clear hk1
   go_enter Tryz.func139,Tryz.ntmps139
   go_wp2_with fail;refine HS.out.mono ?_;rintro _ _ ⟨⟨older,ho,rfl⟩,hw⟩;have hw:=hw.symm;subst hw;go_wp2_with fail;exact⟨rfl,⟨older,ho,rfl⟩,rfl⟩
  | false=>
   have p8 : m < n:=by simp at hm;omega
   have hk1 : 0≤(m:Int)∧(m:Int) < n:=⟨hk0,by omega⟩;simp only [if_pos hk1]
   go_enter Tryz.func139,Tryz.ntmps139
   go_wp2_with fail;go_ret
   exact⟨by simp,rfl⟩
end Go.Proofs.YtechofppmnnomaaGreatDoor
namespace Go.Mq.Run
open Go Go.RowKit Go.Mq Go.Mq.Tree
open Go.Mq.fu (bA getM dG)
theorem aj.still {α:Type} {w w':World} {L:Lay} {d:Nat} {s:St} {ov:Value} {X:List Nat} {V:World→α→Ending→Prop} {a : α} {e:Ending} (h:Going w L d s ov) (hc:ae [] w w') (hV:V w' a e):aj w L d ov X V (.ok a s) e w':=
 ⟨ov,dS.refl _ _,hc.weak,hV,h.kept hc⟩
theorem aj.halted {α:Type} {w w':World} {L:Lay} {d:Nat} {s:St} {ov:Value} {X:List Nat} {V:World→α→Ending→Prop} {way:Nat} {e:Ending} (h:Going w L d s ov) (hc:ae [] w w') (hV:Ay way e):aj w L d ov X V (.stop way s:O α) e w':=
 ⟨ov,dS.refl _ _,hc.weak,hV,d,h.kept hc⟩
theorem yX {w0 w1:World} {ov aP:Value} {Z:List Nat} (hm:dS w1 ov aP) (hc:ae Z w0 w1):dS w0 ov aP:=fun g hg=>by
 rcases hm g hg with h|h
 ·exact .inl h
 ·exact .inr (by have:=hc.size;omega)
theorem aj.after {α:Type} {w0 w1 w':World} {L:Lay} {d:Nat} {ov:Value} {X:List Nat} {V:World→α→Ending→Prop} {o:O α} {e:Ending} (h:aj w1 L d ov X V o e w') (hc:ae [] w0 w1):aj w0 L d ov X V o e w':=by
 obtain⟨aP,hm,hch,h⟩:=h;exact⟨aP,yX hm hc,hc.weak.then hch,h⟩
end Go.Mq.Run
namespace Go.Proofs.YtechofppmnnomaaGreatDoor
open Go Go.RowKit Go.Mq Go.Mq.Tree Go.Mq.Run
open Go.Mq.fu (bA getM dG jX lL mR)
open Go.Mq.Check (fG bZ bK dx)
set_option maxRecDepth 100000
set_option maxHeartbeats 2000000
theorem Qp (w:World) : (zeroValue 2).run Tryz.prog w = .ok (num 0) w:=by kernel_rfl
theorem Gt (w:World) : (zeroValue 41).run Tryz.prog w = .ok ah w:=by kernel_rfl
theorem rV (w:World) : (zeroValue 94).run Tryz.prog w = .ok aI w:=by kernel_rfl
theorem Di {w:World} {ob:Option Nat} {fr:Fr} (h:eG w ob fr) (n:Nm) : (Instr.lookup 165 (.map ob) (str n) true).run Tryz.prog w = .ok (.tuple #[num ((dN fr n).getD 0),.bool (dN fr n).isSome]) w:=by
 rcases h with⟨rfl,rfl⟩|⟨b,rfl,h⟩
 ·have:=mR (P:=Tryz.prog) Tryz.underlying165 Tryz.underlying9 (Qp w) n true
  rw [if_pos rfl] at this;exact this
 ·have:=lL (P:=Tryz.prog) Tryz.underlying165 Tryz.underlying9 (Qp w) h n
  rw [YK] at this;cases hg : dN fr n <;> rw [hg] at this <;> exact this
theorem tX {w:World} {L:Lay} {d:Nat} {s:St} {ov:Value} {q:Nm} {m:Mod} (h:Going w L d s ov) (hq:L.M q=some m) : ∃ (c0 c1 c2 c3 c4:Value) (bv:Nat),ag w (L.pb q) #[c0,c1,c2,c3,c4,.map (some bv)] 102∧L.Fix (L.pb q) ∧
  ∀ w' Z,ae Z w w'→(∀ x∈Z,¬ L.Fix x) → ∀ n,(Instr.lookup 99 (.map (some bv)) (str n) false).run Tryz.prog w' = .ok (match L.ak q n with|some x=>.slice (some ⟨x.1,0,none⟩) x.2 x.2|none=>ah) w':=by
 obtain⟨_,bp,bQ,_,_,_,_,hall⟩:=h.stat;have:=hall q;rw [hq] at this;obtain⟨_,hp1,_,ai,ci,av,cv,ap,cp,ab,cb,bv,es,h3,_,h5,h6,h7⟩:=this;refine⟨_,_,_,_,_,bv,h3,hp1,fun w' Z hc hZ n=>?_⟩;have hl:=jX (P:=Tryz.prog) Tryz.underlying99 Tryz.underlying9 (Gt w') (h6.kept hc fun hm=>hZ _ hm h5) n;rw [h7] at hl;rw [hl];cases L.ak q n <;> rfl
theorem Gu {w:World} {L:Lay} {d:Nat} {s:St} {ov:Value} (h:Going w L d s ov) : ∃ (bp:Nat) (c1:Value),ag w L.bw #[.map (some bp),c1] 40∧L.Fix L.bw ∧
  ∀ w' Z,ae Z w w'→(∀ x∈Z,¬ L.Fix x) → ∀ q,(Instr.lookup 38 (.map (some bp)) (str q) false).run Tryz.prog w' = .ok (match L.M q with|some _=>ptr (L.pb q)|none=>aI) w':=by
 obtain⟨h1,bp,bQ,aP,h2,h3,h4,hall⟩:=h.stat;refine⟨bp,aP,h2,h1,fun w' Z hc hZ q=>?_⟩;have hl:=jX (P:=Tryz.prog) Tryz.underlying38 Tryz.underlying9 (rV w') (h4.kept hc fun hm=>hZ _ hm h3) q;have:=hall q;cases hq:L.M q with
 | none=>rw [hq] at this;simp only at this;rw [this] at hl;exact hl
 | some m=>rw [hq] at this;simp only at this;rw [this.1] at hl;exact hl
theorem ZP {L:Lay} {d:Nat} {q:Nm} {fr:Fr} {p:Nat} {n:Int} {s:St} {w:World} {ov:Value} {ob:Option Nat} {u:Value} (g:Nat) (h:Going w L d s ov) (hx:aY w L.Fix (.num p n) [u]) :
  Calls Tryz.prog 117 #[ptr L.br,ptr (L.pb q),.map ob,u] w (aj w L d ov [] (fun _ n e=>e = .returned (num n)) ((fns L.M (g + 1)).e d q fr (.num p n) s)):=by
 obtain⟨b,he,hF,hb⟩:=hx;cases he
 have H:=zh h;have hc0:ae [] w (w.alloc (.cells #[ptr b] 166)):=(ae.refl _ _).alloc _;have hb0:=hb.kept hc0 (by simp);have b0:=(ag.new w #[ptr b] 166).cell 0 _ rfl;have d0:=hb0.cell 0 _ rfl;have d2:=hb0.cell 2 _ rfl;have d3:=hb0.cell 3 _ rfl;have aC:=zh hc0;clear h hb hb0 hc0
 go_enter Tryz.func117,Tryz.ntmps117
 go_wp2_with fail;go_ret
 exact aj.still H.out aC.out rfl
theorem ZQ {L:Lay} {d:Nat} {q:Nm} {fr:Fr} {p:Nat} {s:St} {w:World} {ov:Value} {ob:Option Nat} {u:Value} {n:Nm} {v:Int} (h:Going w L d s ov) (hfr:eG w ob fr) (hx:aY w L.Fix (.var p [] n) [u]) (hv : dN fr n=some v) :
  Calls Tryz.prog 117 #[ptr L.br,ptr (L.pb q),.map ob,u] w (aj w L d ov [] (fun _ n e=>e = .returned (num n)) (.ok v s)):=by
 obtain⟨b,he,hF,hb⟩:=hx;cases he
 obtain⟨wA,ay⟩ : ∃ x,w.alloc (.cells #[ptr b] 166)=x:=⟨_,rfl⟩
 have hc0:ae [] w wA:=by rw [← ay];exact(ae.refl _ _).alloc _
 have hb0:=hb.kept hc0 (by simp);have b0 : wA.cell? ⟨w.heap.size,0,none⟩=some (ptr b):=by rw [← ay];exact(ag.new w #[ptr b] 166).cell 0 _ rfl
 have HX:=zh hb0;have d0:=hb0.cell 0 _ rfl;have d3:=hb0.cell 3 _ rfl;have d4:=hb0.cell 4 _ rfl;have aC:=zh hc0;have H:=zh (h.kept hc0);have di:=zh (hfr.kept hc0 (by simp));have hl:=Di di.out n;rw [hv] at hl;clear h hb hb0 hc0 hfr hv
 go_enter Tryz.func117,Tryz.ntmps117
 go_wp2_with fail;go_ret
 exact(aj.still H.out (ae.refl _ _) rfl).after aC.out
theorem Qq {w:World} {L:Lay} {d:Nat} {s:St} {ov:Value} (h:Going w L d s ov) {q n:Nm} {v:Int} {s':St} (hv : fV (s.vs q n) s' = .ok v s') : ∃ b k m,L.ak q n=some (b,k)∧1≤k∧k≤1000∧L.M q=some m∧w.cell? ⟨b,0,none⟩=some (num v):=by
 have:=h.dyn q n;cases hd:L.ak q n with
 | none=>rw [hd] at this;simp only at this;rw [this] at hv;cases hv
 | some x=>
  obtain⟨b,k⟩:=x;rw [hd] at this;obtain⟨l,h1,h2,h3⟩:=this;rw [h1] at hv;cases l with
  | nil=>cases hv
  | cons z l=>
   cases hv
   obtain⟨ha,hb1,hb2⟩:=h.lay.arr hd;cases hm:L.M q with
   | none=>have:=h.lay.there hd;rw [hm] at this;cases this
   | some m=>exact⟨b,k,m,rfl,hb1,hb2,rfl,h3.cell 0 _ rfl⟩
theorem Qr {l:Option (List Int)} {s:St} (h : fV l s ≠ .stuck) : ∃ v,fV l s = .ok v s:=by
 match l,h with
 | some (v :: _),_=>exact⟨v,rfl⟩
 | some [],h=>exact absurd rfl h
 | none,h=>exact absurd rfl h
theorem ZR {L:Lay} {d:Nat} {q:Nm} {fr:Fr} {p:Nat} {s:St} {w:World} {ov:Value} {ob:Option Nat} {u:Value} {n:Nm} {v:Int} (h:Going w L d s ov) (hfr:eG w ob fr) (hx:aY w L.Fix (.var p [] n) [u]) (hno : dN fr n=none) (hv : fV (s.vs q n) s = .ok v s) :
  Calls Tryz.prog 117 #[ptr L.br,ptr (L.pb q),.map ob,u] w (aj w L d ov [] (fun _ n e=>e = .returned (num n)) (.ok v s)):=by
 obtain⟨b,he,hF,hb⟩:=hx;cases he
 obtain⟨wA,ay⟩ : ∃ x,w.alloc (.cells #[ptr b] 166)=x:=⟨_,rfl⟩
 have hc0:ae [] w wA:=by rw [← ay];exact(ae.refl _ _).alloc _
 have hb0:=hb.kept hc0 (by simp);have b0 : wA.cell? ⟨w.heap.size,0,none⟩=some (ptr b):=by rw [← ay];exact(ag.new w #[ptr b] 166).cell 0 _ rfl
 have HX:=zh hb0;have d0:=hb0.cell 0 _ rfl;have d3:=hb0.cell 3 _ rfl;have d4:=hb0.cell 4 _ rfl;have aC:=zh hc0;have H:=zh (h.kept hc0);have di:=zh (hfr.kept hc0 (by simp));have hl:=Di di.out n;rw [hno] at hl;obtain⟨bv,k,m',hd,hk1,hk2,hm,hcell⟩:=Qq H.out hv;obtain⟨c0,c1,c2,c3,c4,bm,hpb,iD,hlk⟩:=tX H.out hm;have p5:=hpb.cell 5 _ rfl;have hl2:=hlk wA.drew [] (ae.refl _ _).drew (by simp) n;rw [hd] at hl2;simp only at hl2;clear h hb hb0 hc0 hfr hno hv hlk hpb hd
 go_enter Tryz.func117,Tryz.ntmps117
 go_wp2_with fail
 go_region
 all_goals (try go_wp2_with fail)
 go_ret
 exact(aj.still H.out (ae.refl _ _).drew rfl).after aC.out
theorem ZT {L:Lay} {d:Nat} {q:Nm} {fr:Fr} {p:Nat} {s:St} {w:World} {ov:Value} {ob:Option Nat} {u:Value} {mm n:Nm} {v:Int} (h:Going w L d s ov) (hfr:eG w ob fr) (hx:aY w L.Fix (.var p mm n) [u]) (hmm : mm≠[]) (hv : fV (s.vs mm n) s = .ok v s) :
  Calls Tryz.prog 117 #[ptr L.br,ptr (L.pb q),.map ob,u] w (aj w L d ov [] (fun _ n e=>e = .returned (num n)) (.ok v s)):=by
 obtain⟨b,he,hF,hb⟩:=hx;cases he
 obtain⟨wA,ay⟩ : ∃ x,w.alloc (.cells #[ptr b] 166)=x:=⟨_,rfl⟩
 have hc0:ae [] w wA:=by rw [← ay];exact(ae.refl _ _).alloc _
 have hb0:=hb.kept hc0 (by simp);have b0 : wA.cell? ⟨w.heap.size,0,none⟩=some (ptr b):=by rw [← ay];exact(ag.new w #[ptr b] 166).cell 0 _ rfl
 have HX:=zh hb0;have d0:=hb0.cell 0 _ rfl;have d3:=hb0.cell 3 _ rfl;have d4:=hb0.cell 4 _ rfl;have aC:=zh hc0;have H:=zh (h.kept hc0);have di:=zh (hfr.kept hc0 (by simp));have r0:=H.out.run.cell 0 _ rfl;obtain⟨bp,Kl,hwb,hwf,jC⟩:=Gu H.out;have w0:=hwb.cell 0 _ rfl;have hl0:=jC wA.drew [] (ae.refl _ _).drew (by simp) mm;have hl:=Di (di.out.kept (ae.refl [] wA).drew (by simp)) n;obtain⟨bv,k,m',hd,hk1,hk2,hm,hcell⟩:=Qq H.out hv;rw [hm] at hl0;simp only at hl0;obtain⟨c0,c1,c2,c3,c4,bm,hpb,iD,hlk⟩:=tX H.out hm;have p5:=hpb.cell 5 _ rfl;have hl2:=hlk wA.drew.drew [] (ae.refl _ _).drew.drew (by simp) n;rw [hd] at hl2;simp only at hl2;have hm1 : (mm == [])=false:=by simpa using hmm
 have hm2 : (mm != [])=true:=by simpa using hmm
 obtain⟨gv,hgv⟩ : ∃ x,x=(dN fr n).getD 0:=⟨_,rfl⟩
 obtain⟨gb,hgb⟩ : ∃ x,x=(dN fr n).isSome:=⟨_,rfl⟩
 rw [← hgv,← hgb] at hl;clear h hb hb0 hc0 hfr hv hlk hpb hd jC hwb hmm hgv hgb;cases gb with
 | true=>
  go_enter Tryz.func117,Tryz.ntmps117
  go_wp2_with fail
  go_region
  all_goals (try go_wp2_with fail)
  go_region
  all_goals (try go_wp2_with fail)
  go_ret
  exact(aj.still H.out (ae.refl _ _).drew.drew rfl).after aC.out
 | false=>
  go_enter Tryz.func117,Tryz.ntmps117
  go_wp2_with fail
  go_region
  all_goals (try go_wp2_with fail)
  go_region
  all_goals (try go_wp2_with fail)
  go_ret
  exact(aj.still H.out (ae.refl _ _).drew.drew rfl).after aC.out
end Go.Proofs.YtechofppmnnomaaGreatDoor
namespace Go.Mq.Run
open Go Go.RowKit Go.Mq Go.Mq.Tree
theorem aj.done {α:Type} {w w1 w':World} {L:Lay} {d:Nat} {s':St} {ov aP:Value} {X:List Nat} {V:World→α→Ending→Prop} {a : α} {e:Ending} (hm:dS w ov aP) (hc:ae (aJ L ov) w w1) (h:Going w1 L d s' aP) (hc2:ae [] w1 w') (hV:V w' a e):aj w L d ov X V (.ok a s') e w':=
 ⟨aP,hm,(hc.then hc2.weak).mono (fun x hx=>.inl (List.mem_append_right _ hx)),hV,h.kept hc2⟩
theorem aj.ended {α:Type} {w w1 w':World} {L:Lay} {d d':Nat} {s':St} {ov aP:Value} {X:List Nat} {V:World→α→Ending→Prop} {way:Nat} {e:Ending} (hm:dS w ov aP) (hc:ae (aJ L ov) w w1) (h:Going w1 L d' s' aP) (hc2:ae [] w1 w') (hV:Ay way e):aj w L d ov X V (.stop way s':O α) e w':=
 ⟨aP,hm,(hc.then hc2.weak).mono (fun x hx=>.inl (List.mem_append_right _ hx)),hV,d',h.kept hc2⟩
theorem aj.then {α:Type} {w w1 w':World} {L:Lay} {d:Nat} {ov aP:Value} {X:List Nat} {V:World→α→Ending→Prop} {o:O α} {e:Ending} (hm:dS w ov aP) (hc:ae (aJ L ov) w w1) (h:aj w1 L d aP X V o e w'):aj w L d ov X V o e w':=by
 obtain⟨bT,hm2,hc2,h⟩:=h;refine⟨bT,hm.trans hc hm2,(hc.mono (fun x hx=>.inl (List.mem_append_right _ hx))).trans hc2 (fun x hx=>?_),h⟩;rcases List.mem_append.1 hx with hx|hx
 ·exact .inl (List.mem_append_left _ hx)
 ·rcases F5 hc hm x hx with h|h
  ·exact .inl (List.mem_append_right _ h)
  ·exact .inr h
end Go.Mq.Run
namespace Go.Proofs.YtechofppmnnomaaGreatDoor
open Go Go.RowKit Go.Mq Go.Mq.Tree Go.Mq.Run
open Go.Mq.fu (bA getM dG jX lL mR)
open Go.Mq.Check (fG bZ bK dx)
set_option maxRecDepth 100000
set_option maxHeartbeats 2000000
theorem ZU (g:Nat) (hE:ji g) {L:Lay} {d:Nat} {q:Nm} {fr:Fr} {p:Nat} {s:St} {w:World} {ov:Value} {ob:Option Nat} {u:Value} {m:Mod} {op:Nm} {x:E} (h:Going w L d s ov) (hq:L.M q=some m) (hfr:eG w ob fr) (hx:aY w L.Fix (.un p op x) [u]) (hfe:bK x) (ho : (fns L.M (g + 1)).e d q fr (.un p op x) s ≠ .stuck) :
  Calls Tryz.prog 117 #[ptr L.br,ptr (L.pb q),.map ob,u] w (aj w L d ov [] (fun _ n e=>e = .returned (num n)) ((fns L.M (g + 1)).e d q fr (.un p op x) s)):=by
 obtain⟨b,ul,he,hF,hb,hxl⟩:=hx;cases he
 obtain⟨wA,ay⟩ : ∃ x,w.alloc (.cells #[ptr b] 166)=x:=⟨_,rfl⟩
 have hc0:ae [] w wA:=by rw [← ay];exact(ae.refl _ _).alloc _
 have hb0:=hb.kept hc0 (by simp);have hbx:ag wA w.heap.size #[ptr b] 166:=by rw [← ay];exact ag.new w #[ptr b] 166
 have b0:=hbx.cell 0 _ rfl;have HX:=zh hb0;have gZ:=zh hbx;have HF:=zh hF;have d0:=hb0.cell 0 _ rfl;have d3:=hb0.cell 3 _ rfl;have d5:=hb0.cell 5 _ rfl;have d6:=hb0.cell 6 _ rfl;have aC:=zh hc0;have H:=zh (h.kept hc0);have di:=zh (hfr.kept hc0 (by simp));obtain⟨tgt,ht⟩ : ∃ o,o=(fns L.M (g + 1)).e d q fr (.un p op x) s:=⟨_,rfl⟩
 have ht2 : tgt=((fns L.M g).e d q fr x s).bind (fun n s=>.ok (if op=[45] then wr (-n) else one (n == 0)) s):=ht;rw [← ht] at ho ⊢;have bS:=zh (hE H.out hq di.out (hxl.kept hc0 (by simp)) hfe (fun hs=>ho (by rw [ht2,hs];rfl)));clear h hb hb0 hc0 hfr hxl hbx ht;cases hr : (fns L.M g).e d q fr x s with
 | stuck=>exact absurd (by rw [ht2,hr];rfl) ho
 | stop way s'=>
  rw [hr] at bS;have HT:=zh (show tgt = .stop way s' by rw [ht2,hr];rfl);clear hr ht2 ho
  go_enter Tryz.func117,Tryz.ntmps117
  go_wp2_with fail;refine bS.out.mono ?_;rintro e w1 ⟨aP,hm,hc,⟨older,hol,rfl⟩,d',hg⟩;have HM:=zh hm;have HC:=zh hc;have HG:=zh hg;clear hm hc hg;go_wp2_with fail;refine⟨rfl,?_⟩;rw [HT.out];exact aj.after (aj.ended HM.out HC.out HG.out (ae.refl _ _) ⟨older,hol,rfl⟩) aC.out
 | ok v s'=>
  rw [hr] at bS;by_cases hop : op=[45]
  ·have HT:=zh (show tgt = .ok (wr (-v)) s' by rw [ht2,hr,O.bind,if_pos hop])
   clear hr ht2 ho;subst hop
   go_enter Tryz.func117,Tryz.ntmps117
   go_wp2_with fail;refine bS.out.mono ?_;rintro e w1 ⟨aP,hm,hc,rfl,hg⟩;have hnx : b∉aJ L ov:=fun hm=>H.out.dz b hm HF.out
   have b0':=hc.aF b0 (by simpa using H.out.gT gZ.out (by decide) (by decide));have xh:=hc.aF d5 (by simpa using hnx);have HM:=zh hm;have HC:=zh hc;have HG:=zh hg;clear hm hc hg hnx b0 d5 d0 d3 d6;go_wp2_with fail;go_ret
   rw [HT.out];exact aj.after (aj.done HM.out HC.out HG.out (ae.refl _ _) rfl) aC.out
  ·have HT:=zh (show tgt = .ok (one (v == 0)) s' by rw [ht2,hr,O.bind,if_neg hop])
   have Gv : (op == [45])=false:=by simpa using hop
   have HO:=zh (fun w=>qM (v == 0) w);clear hop hr ht2 ho
   go_enter Tryz.func117,Tryz.ntmps117
   go_wp2_with fail;refine bS.out.mono ?_;rintro e w1 ⟨aP,hm,hc,rfl,hg⟩;have hnx : b∉aJ L ov:=fun hm=>H.out.dz b hm HF.out
   have b0':=hc.aF b0 (by simpa using H.out.gT gZ.out (by decide) (by decide));have xh:=hc.aF d5 (by simpa using hnx);have HM:=zh hm;have HC:=zh hc;have HG:=zh hg;clear hm hc hg hnx b0 d5 d0 d3 d6;go_wp2_with fail;refine(HO.out w1).mono ?_;rintro _ _ ⟨rfl,hw⟩;have hw:=hw.symm;subst hw;go_wp2_with fail;go_ret
   rw [HT.out];exact aj.after (aj.done HM.out HC.out HG.out (ae.refl _ _) rfl) aC.out
end Go.Proofs.YtechofppmnnomaaGreatDoor
namespace Go.Proofs.YtechofppmnnomaaGreatDoor
open Go Go.RowKit Go.Mq Go.Mq.Tree Go.Mq.Run
open Go.Mq.Check (fG bZ bK dx)
set_option maxRecDepth 100000
set_option maxHeartbeats 4000000
theorem ZV (g:Nat) (hE:ji g) {L:Lay} {d:Nat} {q:Nm} {fr:Fr} {p:Nat} {s:St} {w:World} {ov:Value} {ob:Option Nat} {u:Value} {m:Mod} {x y:E} (h:Going w L d s ov) (hq:L.M q=some m) (hfr:eG w ob fr) (hx:aY w L.Fix (.bin p [97,110,100] x y) [u]) (hfe:bK x∧bK y) (ho : (fns L.M (g + 1)).e d q fr (.bin p [97,110,100] x y) s ≠ .stuck) :
  Calls Tryz.prog 117 #[ptr L.br,ptr (L.pb q),.map ob,u] w (aj w L d ov [] (fun _ n e=>e = .returned (num n)) ((fns L.M (g + 1)).e d q fr (.bin p [97,110,100] x y) s)):=by
 obtain⟨b,ul,ur,he,hF,hb,hxl,hyl⟩:=hx;cases he
 obtain⟨wA,ay⟩ : ∃ x,w.alloc (.cells #[ptr b] 166)=x:=⟨_,rfl⟩
 have hc0:ae [] w wA:=by rw [← ay];exact(ae.refl _ _).alloc _
 have hb0:=hb.kept hc0 (by simp);have hbx:ag wA w.heap.size #[ptr b] 166:=by rw [← ay];exact ag.new w #[ptr b] 166
 have b0:=hbx.cell 0 _ rfl;have HX:=zh hb0;have gZ:=zh hbx;have HF:=zh hF;have d0:=hb0.cell 0 _ rfl;have d3:=hb0.cell 3 _ rfl;have d5:=hb0.cell 5 _ rfl;have d6:=hb0.cell 6 _ rfl;have aC:=zh hc0;have H:=zh (h.kept hc0);have di:=zh (hfr.kept hc0 (by simp));obtain⟨tgt,ht⟩ : ∃ o,o=(fns L.M (g + 1)).e d q fr (.bin p [97,110,100] x y) s:=⟨_,rfl⟩
 have ht2 : tgt=((fns L.M g).e d q fr x s).bind (fun a s=>if [97,110,100]=[97,110,100]∨[97,110,100]=[111,114] then
    if (a != 0)=decide ([97,110,100]=[111,114]) then .ok (one (a != 0)) s else ((fns L.M g).e d q fr y s).bind fun b s=>.ok (one (b != 0)) s
   else ((fns L.M g).e d q fr y s).bind fun b s=>match both [97,110,100] a b with
    | some n=>.ok n s
    | none=>.stop 2 s):=ht
 rw [← ht] at ho ⊢;have bS:=zh (hE H.out hq di.out (hxl.kept hc0 (by simp)) hfe.1 (fun hs=>ho (by rw [ht2,hs];rfl)));have yY:=zh (hyl.kept hc0 (by simp));have HQ:=zh hq;have iM:=zh hfe.2;clear h hb hb0 hc0 hfr hxl hyl hbx ht hq hfe;cases hr : (fns L.M g).e d q fr x s with
 | stuck=>exact absurd (by rw [ht2,hr];rfl) ho
 | stop way s'=>
  rw [hr] at bS;have HT:=zh (show tgt = .stop way s' by rw [ht2,hr];rfl);clear hr ht2 ho
  go_enter Tryz.func117,Tryz.ntmps117
  go_wp2_with fail;refine bS.out.mono ?_;rintro e w1 ⟨aP,hm,hc,⟨older,hol,rfl⟩,d',hg⟩;have HM:=zh hm;have HC:=zh hc;have HG:=zh hg;clear hm hc hg;go_wp2_with fail;refine⟨rfl,?_⟩;rw [HT.out];exact aj.after (aj.ended HM.out HC.out HG.out (ae.refl _ _) ⟨older,hol,rfl⟩) aC.out
 | ok v s'=>
  rw [hr] at bS;rw [hr] at ht2;have HR:=zh hr;clear hr;cases hsh : (v == 0) with
  | true=>
   have t1 : (v != 0)=false:=by simpa using hsh
   have t2 : decide (v=0)=true:=by simpa using hsh
   have HT:=zh (show tgt = .ok (one false) s' by rw [ht2,O.bind,if_pos (by decide),if_pos (by simpa using hsh),t1]);have HO:=zh (fun w=>qM false w);clear ht2 ho hsh
   go_enter Tryz.func117,Tryz.ntmps117
   go_wp2_with fail;refine bS.out.mono ?_;rintro e w1 ⟨aP,hm,hc,rfl,hg⟩;have hnb : w.heap.size∉aJ L ov:=H.out.gT gZ.out (by decide) (by decide);have hnx : b∉aJ L ov:=fun hm=>H.out.dz b hm HF.out
   have oP:=zh (lN (L:=L) hm gZ.out.lt hnb);have eZ:=zh (lN (L:=L) hm HX.out.lt hnx);have fI:=zh (HX.out.kept hc (by simpa using hnx));have dm:=zh (gZ.out.kept hc (by simpa using hnb));have fo:=zh (di.out.kept hc (by simpa using di.out.iK H.out));have yZ:=zh (yY.out.kept hc (by simpa using H.out.dz));have HM:=zh hm;have HC:=zh hc;have HG:=zh hg;have b0':=dm.out.cell 0 _ rfl;have xh:=fI.out.cell 5 _ rfl;have AV:=fI.out.cell 7 _ rfl;clear hm hc hg hnx hnb b0 d5 d0 d3 d6 ay;go_wp2_with fail;refine(HO.out w1).mono ?_;rintro _ _ ⟨rfl,hw⟩;have hw:=hw.symm;subst hw;go_wp2_with fail;go_ret
   rw [HT.out];exact aj.after (aj.done HM.out HC.out HG.out (ae.refl _ _) rfl) aC.out
  | false=>
   have ht3 : tgt=((fns L.M g).e d q fr y s').bind fun b s=>.ok (one (b != 0)) s:=by rw [ht2,O.bind,if_pos (by decide),if_neg (by simpa using hsh)]
   have t1 : (v != 0)=true:=by simpa using hsh
   have t2 : decide (v=0)=false:=by simpa using hsh
   clear ht2 hsh
   go_enter Tryz.func117,Tryz.ntmps117
   go_wp2_with fail;refine bS.out.mono ?_;rintro e w1 ⟨aP,hm,hc,rfl,hg⟩;have hnb : w.heap.size∉aJ L ov:=H.out.gT gZ.out (by decide) (by decide);have hnx : b∉aJ L ov:=fun hm=>H.out.dz b hm HF.out
   have oP:=zh (lN (L:=L) hm gZ.out.lt hnb);have eZ:=zh (lN (L:=L) hm HX.out.lt hnx);have fI:=zh (HX.out.kept hc (by simpa using hnx));have dm:=zh (gZ.out.kept hc (by simpa using hnb));have fo:=zh (di.out.kept hc (by simpa using di.out.iK H.out));have yZ:=zh (yY.out.kept hc (by simpa using H.out.dz));have HM:=zh hm;have HC:=zh hc;have HG:=zh hg;have b0':=dm.out.cell 0 _ rfl;have xh:=fI.out.cell 5 _ rfl;have AV:=fI.out.cell 7 _ rfl;clear hm hc hg hnx hnb b0 d5 d0 d3 d6 ay;have oV:=zh (hE HG.out HQ.out fo.out yZ.out iM.out (fun hs=>ho (by rw [ht3,hs];rfl)));cases hr2 : (fns L.M g).e d q fr y s' with
   | stuck=>exact absurd (by rw [ht3,hr2];rfl) ho
   | stop way s2=>
    rw [hr2] at oV;have HT:=zh (show tgt = .stop way s2 by rw [ht3,hr2];rfl);clear hr2 ht3 ho;go_wp2_with fail;refine oV.out.mono ?_;rintro e w2 ⟨bT,hm,hc,⟨older,hol,rfl⟩,d',hg⟩;have bC:=zh hm;have aD:=zh hc;have HG2:=zh hg;clear hm hc hg;go_wp2_with fail;refine⟨rfl,?_⟩;rw [HT.out];exact aj.after (aj.then HM.out HC.out (aj.ended bC.out aD.out HG2.out (ae.refl _ _) ⟨older,hol,rfl⟩)) aC.out
   | ok v2 s2=>
    rw [hr2] at oV;have HT:=zh (show tgt = .ok (one (v2 != 0)) s2 by rw [ht3,hr2];rfl);have HO:=zh (fun w=>qM (v2 != 0) w);clear hr2 ht3 ho;go_wp2_with fail;refine oV.out.mono ?_;rintro e w2 ⟨bT,hm,hc,rfl,hg⟩;have bC:=zh hm;have aD:=zh hc;have HG2:=zh hg;clear hm hc hg;go_wp2_with fail;refine(HO.out w2).mono ?_;rintro _ _ ⟨rfl,hw⟩;have hw:=hw.symm;subst hw;go_wp2_with fail;go_ret
    rw [HT.out];exact aj.after (aj.then HM.out HC.out (aj.done bC.out aD.out HG2.out (ae.refl _ _) rfl)) aC.out
theorem ZW (g:Nat) (hE:ji g) {L:Lay} {d:Nat} {q:Nm} {fr:Fr} {p:Nat} {s:St} {w:World} {ov:Value} {ob:Option Nat} {u:Value} {m:Mod} {x y:E} (h:Going w L d s ov) (hq:L.M q=some m) (hfr:eG w ob fr) (hx:aY w L.Fix (.bin p [111,114] x y) [u]) (hfe:bK x∧bK y) (ho : (fns L.M (g + 1)).e d q fr (.bin p [111,114] x y) s ≠ .stuck) :
  Calls Tryz.prog 117 #[ptr L.br,ptr (L.pb q),.map ob,u] w (aj w L d ov [] (fun _ n e=>e = .returned (num n)) ((fns L.M (g + 1)).e d q fr (.bin p [111,114] x y) s)):=by
 obtain⟨b,ul,ur,he,hF,hb,hxl,hyl⟩:=hx;cases he
 obtain⟨wA,ay⟩ : ∃ x,w.alloc (.cells #[ptr b] 166)=x:=⟨_,rfl⟩
 have hc0:ae [] w wA:=by rw [← ay];exact(ae.refl _ _).alloc _
 have hb0:=hb.kept hc0 (by simp);have hbx:ag wA w.heap.size #[ptr b] 166:=by rw [← ay];exact ag.new w #[ptr b] 166
 have b0:=hbx.cell 0 _ rfl;have HX:=zh hb0;have gZ:=zh hbx;have HF:=zh hF;have d0:=hb0.cell 0 _ rfl;have d3:=hb0.cell 3 _ rfl;have d5:=hb0.cell 5 _ rfl;have d6:=hb0.cell 6 _ rfl;have aC:=zh hc0;have H:=zh (h.kept hc0);have di:=zh (hfr.kept hc0 (by simp));obtain⟨tgt,ht⟩ : ∃ o,o=(fns L.M (g + 1)).e d q fr (.bin p [111,114] x y) s:=⟨_,rfl⟩
 have ht2 : tgt=((fns L.M g).e d q fr x s).bind (fun a s=>if [111,114]=[97,110,100]∨[111,114]=[111,114] then
    if (a != 0)=decide ([111,114]=[111,114]) then .ok (one (a != 0)) s else ((fns L.M g).e d q fr y s).bind fun b s=>.ok (one (b != 0)) s
   else ((fns L.M g).e d q fr y s).bind fun b s=>match both [111,114] a b with
    | some n=>.ok n s
    | none=>.stop 2 s):=ht
 rw [← ht] at ho ⊢;have bS:=zh (hE H.out hq di.out (hxl.kept hc0 (by simp)) hfe.1 (fun hs=>ho (by rw [ht2,hs];rfl)));have yY:=zh (hyl.kept hc0 (by simp));have HQ:=zh hq;have iM:=zh hfe.2;clear h hb hb0 hc0 hfr hxl hyl hbx ht hq hfe;cases hr : (fns L.M g).e d q fr x s with
 | stuck=>exact absurd (by rw [ht2,hr];rfl) ho
 | stop way s'=>
  rw [hr] at bS;have HT:=zh (show tgt = .stop way s' by rw [ht2,hr];rfl);clear hr ht2 ho
  go_enter Tryz.func117,Tryz.ntmps117
  go_wp2_with fail;refine bS.out.mono ?_;rintro e w1 ⟨aP,hm,hc,⟨older,hol,rfl⟩,d',hg⟩;have HM:=zh hm;have HC:=zh hc;have HG:=zh hg;clear hm hc hg;go_wp2_with fail;refine⟨rfl,?_⟩;rw [HT.out];exact aj.after (aj.ended HM.out HC.out HG.out (ae.refl _ _) ⟨older,hol,rfl⟩) aC.out
 | ok v s'=>
  rw [hr] at bS;rw [hr] at ht2;have HR:=zh hr;clear hr;cases hsh : (v != 0) with
  | true=>
   have t1 : (v != 0)=true:=hsh;have HT:=zh (show tgt = .ok (one true) s' by rw [ht2,O.bind,if_pos (by decide),if_pos (by simpa using hsh),t1]);have HO:=zh (fun w=>qM true w);clear ht2 ho hsh
   go_enter Tryz.func117,Tryz.ntmps117
   go_wp2_with fail;refine bS.out.mono ?_;rintro e w1 ⟨aP,hm,hc,rfl,hg⟩;have hnb : w.heap.size∉aJ L ov:=H.out.gT gZ.out (by decide) (by decide);have hnx : b∉aJ L ov:=fun hm=>H.out.dz b hm HF.out
   have oP:=zh (lN (L:=L) hm gZ.out.lt hnb);have eZ:=zh (lN (L:=L) hm HX.out.lt hnx);have fI:=zh (HX.out.kept hc (by simpa using hnx));have dm:=zh (gZ.out.kept hc (by simpa using hnb));have fo:=zh (di.out.kept hc (by simpa using di.out.iK H.out));have yZ:=zh (yY.out.kept hc (by simpa using H.out.dz));have HM:=zh hm;have HC:=zh hc;have HG:=zh hg;have b0':=dm.out.cell 0 _ rfl;have xh:=fI.out.cell 5 _ rfl;have AV:=fI.out.cell 7 _ rfl;clear hm hc hg hnx hnb b0 d5 d0 d3 d6 ay;go_wp2_with fail;refine(HO.out w1).mono ?_;rintro _ _ ⟨rfl,hw⟩;have hw:=hw.symm;subst hw;go_wp2_with fail;go_ret
   rw [HT.out];exact aj.after (aj.done HM.out HC.out HG.out (ae.refl _ _) rfl) aC.out
  | false=>
   have ht3 : tgt=((fns L.M g).e d q fr y s').bind fun b s=>.ok (one (b != 0)) s:=by rw [ht2,O.bind,if_pos (by decide),if_neg (by simpa using hsh)]
   have t1 : (v != 0)=false:=hsh;clear ht2 hsh
   go_enter Tryz.func117,Tryz.ntmps117
   go_wp2_with fail;refine bS.out.mono ?_;rintro e w1 ⟨aP,hm,hc,rfl,hg⟩;have hnb : w.heap.size∉aJ L ov:=H.out.gT gZ.out (by decide) (by decide);have hnx : b∉aJ L ov:=fun hm=>H.out.dz b hm HF.out
   have oP:=zh (lN (L:=L) hm gZ.out.lt hnb);have eZ:=zh (lN (L:=L) hm HX.out.lt hnx);have fI:=zh (HX.out.kept hc (by simpa using hnx));have dm:=zh (gZ.out.kept hc (by simpa using hnb));have fo:=zh (di.out.kept hc (by simpa using di.out.iK H.out));have yZ:=zh (yY.out.kept hc (by simpa using H.out.dz));have HM:=zh hm;have HC:=zh hc;have HG:=zh hg;have b0':=dm.out.cell 0 _ rfl;have xh:=fI.out.cell 5 _ rfl;have AV:=fI.out.cell 7 _ rfl;clear hm hc hg hnx hnb b0 d5 d0 d3 d6 ay;have oV:=zh (hE HG.out HQ.out fo.out yZ.out iM.out (fun hs=>ho (by rw [ht3,hs];rfl)));cases hr2 : (fns L.M g).e d q fr y s' with
   | stuck=>exact absurd (by rw [ht3,hr2];rfl) ho
   | stop way s2=>
    rw [hr2] at oV;have HT:=zh (show tgt = .stop way s2 by rw [ht3,hr2];rfl);clear hr2 ht3 ho;go_wp2_with fail;refine oV.out.mono ?_;rintro e w2 ⟨bT,hm,hc,⟨older,hol,rfl⟩,d',hg⟩;have bC:=zh hm;have aD:=zh hc;have HG2:=zh hg;clear hm hc hg;go_wp2_with fail;refine⟨rfl,?_⟩;rw [HT.out];exact aj.after (aj.then HM.out HC.out (aj.ended bC.out aD.out HG2.out (ae.refl _ _) ⟨older,hol,rfl⟩)) aC.out
   | ok v2 s2=>
    rw [hr2] at oV;have HT:=zh (show tgt = .ok (one (v2 != 0)) s2 by rw [ht3,hr2];rfl);have HO:=zh (fun w=>qM (v2 != 0) w);clear hr2 ht3 ho;go_wp2_with fail;refine oV.out.mono ?_;rintro e w2 ⟨bT,hm,hc,rfl,hg⟩;have bC:=zh hm;have aD:=zh hc;have HG2:=zh hg;clear hm hc hg;go_wp2_with fail;refine(HO.out w2).mono ?_;rintro _ _ ⟨rfl,hw⟩;have hw:=hw.symm;subst hw;go_wp2_with fail;go_ret
    rw [HT.out];exact aj.after (aj.then HM.out HC.out (aj.done bC.out aD.out HG2.out (ae.refl _ _) rfl)) aC.out
theorem ZX (g:Nat) (hE:ji g) {L:Lay} {d:Nat} {q:Nm} {fr:Fr} {p:Nat} {s:St} {w:World} {ov:Value} {ob:Option Nat} {u:Value} {m:Mod} {op:Nm} {x y:E} (h:Going w L d s ov) (hq:L.M q=some m) (hfr:eG w ob fr) (hx:aY w L.Fix (.bin p op x y) [u]) (hfe:bK x∧bK y) (Gv : op≠[97,110,100]) (Km : op≠[111,114]) (ho : (fns L.M (g + 1)).e d q fr (.bin p op x y) s ≠ .stuck) :
  Calls Tryz.prog 117 #[ptr L.br,ptr (L.pb q),.map ob,u] w (aj w L d ov [] (fun _ n e=>e = .returned (num n)) ((fns L.M (g + 1)).e d q fr (.bin p op x y) s)):=by
 obtain⟨b,ul,ur,he,hF,hb,hxl,hyl⟩:=hx;cases he
 obtain⟨wA,ay⟩ : ∃ x,w.alloc (.cells #[ptr b] 166)=x:=⟨_,rfl⟩
 have hc0:ae [] w wA:=by rw [← ay];exact(ae.refl _ _).alloc _
 have hb0:=hb.kept hc0 (by simp);have hbx:ag wA w.heap.size #[ptr b] 166:=by rw [← ay];exact ag.new w #[ptr b] 166
 have b0:=hbx.cell 0 _ rfl;have HX:=zh hb0;have gZ:=zh hbx;have HF:=zh hF;have d0:=hb0.cell 0 _ rfl;have d3:=hb0.cell 3 _ rfl;have d5:=hb0.cell 5 _ rfl;have d6:=hb0.cell 6 _ rfl;have aC:=zh hc0;have H:=zh (h.kept hc0);have di:=zh (hfr.kept hc0 (by simp));obtain⟨tgt,ht⟩ : ∃ o,o=(fns L.M (g + 1)).e d q fr (.bin p op x y) s:=⟨_,rfl⟩
 have ht2 : tgt=((fns L.M g).e d q fr x s).bind (fun a s=>if op=[97,110,100]∨op=[111,114] then
    if (a != 0)=decide (op=[111,114]) then .ok (one (a != 0)) s else ((fns L.M g).e d q fr y s).bind fun b s=>.ok (one (b != 0)) s
   else ((fns L.M g).e d q fr y s).bind fun b s=>match both op a b with
    | some n=>.ok n s
    | none=>.stop 2 s):=ht
 rw [← ht] at ho ⊢;have bS:=zh (hE H.out hq di.out (hxl.kept hc0 (by simp)) hfe.1 (fun hs=>ho (by rw [ht2,hs];rfl)));have yY:=zh (hyl.kept hc0 (by simp));have HQ:=zh hq;have iM:=zh hfe.2;clear h hb hb0 hc0 hfr hxl hyl hbx ht hq hfe;cases hr : (fns L.M g).e d q fr x s with
 | stuck=>exact absurd (by rw [ht2,hr];rfl) ho
 | stop way s'=>
  rw [hr] at bS;have HT:=zh (show tgt = .stop way s' by rw [ht2,hr];rfl);clear hr ht2 ho
  go_enter Tryz.func117,Tryz.ntmps117
  go_wp2_with fail;refine bS.out.mono ?_;rintro e w1 ⟨aP,hm,hc,⟨older,hol,rfl⟩,d',hg⟩;have HM:=zh hm;have HC:=zh hc;have HG:=zh hg;clear hm hc hg;go_wp2_with fail;refine⟨rfl,?_⟩;rw [HT.out];exact aj.after (aj.ended HM.out HC.out HG.out (ae.refl _ _) ⟨older,hol,rfl⟩) aC.out
 | ok v s'=>
  rw [hr] at bS;rw [hr] at ht2;have HR:=zh hr;clear hr;have hcond : ¬ (op=[97,110,100]∨op=[111,114]):=fun hh=>hh.elim Gv Km
  have ht3 : tgt=((fns L.M g).e d q fr y s').bind fun b s=>match both op v b with
    | some n=>.ok n s
    | none=>.stop 2 s:=by rw [ht2,O.bind,if_neg hcond]
  have k1 : (op == [97,110,100])=false:=by simpa using Gv
  have k2 : (op == [111,114])=false:=by simpa using Km
  clear ht2 hcond Gv Km
  go_enter Tryz.func117,Tryz.ntmps117
  go_wp2_with fail;refine bS.out.mono ?_;rintro e w1 ⟨aP,hm,hc,rfl,hg⟩;have hnb : w.heap.size∉aJ L ov:=H.out.gT gZ.out (by decide) (by decide);have hnx : b∉aJ L ov:=fun hm=>H.out.dz b hm HF.out
  have oP:=zh (lN (L:=L) hm gZ.out.lt hnb);have eZ:=zh (lN (L:=L) hm HX.out.lt hnx);have fI:=zh (HX.out.kept hc (by simpa using hnx));have dm:=zh (gZ.out.kept hc (by simpa using hnb));have fo:=zh (di.out.kept hc (by simpa using di.out.iK H.out));have yZ:=zh (yY.out.kept hc (by simpa using H.out.dz));have HM:=zh hm;have HC:=zh hc;have HG:=zh hg;have b0':=dm.out.cell 0 _ rfl;have xh:=fI.out.cell 5 _ rfl;have AV:=fI.out.cell 7 _ rfl;clear hm hc hg hnx hnb b0 d5 d0 d3 d6 ay;obtain⟨wD,aH⟩ : ∃ x,x=w1.drew:=⟨_,rfl⟩
  have bg:ae [] w1 wD:=by rw [aH];exact(ae.refl [] w1).drew
  have dW:=zh bg;have oV:=zh (hE (HG.out.kept bg) HQ.out (fo.out.kept bg (by simp)) (yZ.out.kept bg (by simp)) iM.out (fun hs=>ho (by rw [ht3,hs];rfl)));have q0:=(dm.out.kept bg (by simp)).cell 0 _ rfl;have q5:=(fI.out.kept bg (by simp)).cell 5 _ rfl;have q7:=(fI.out.kept bg (by simp)).cell 7 _ rfl;have Z1:=zh (bX.of (X:=aJ L aP) q0 oP.out);have Z2:=zh (bX.of (X:=aJ L aP) q5 eZ.out);clear bg;cases hr2 : (fns L.M g).e d q fr y s' with
  | stuck=>exact absurd (by rw [ht3,hr2];rfl) ho
  | stop way s2=>
   rw [hr2] at oV;have HT:=zh (show tgt = .stop way s2 by rw [ht3,hr2];rfl);clear hr2 ht3 ho;go_wp2_with fail;refine y7 mX (aJ L aP) rfl (by kernel_rfl) ?_;rw [← aH];clear aH;have hS:ae (aJ L aP) wD wD:=ae.refl _ _
   repeat ((with_reducible show dX _ _ _ _ _ _ _ _ _);(first|refine iO ?_|refine iZ rfl ?_|refine ja rfl rfl (by kernel_rfl) (fun _ _=>?_)|refine jb rfl rfl rfl (by first|exact Z1.out|exact Z2.out) (by assumption) (fun _ _=>?_));go_wp2_with fail)
   refine mg rfl rfl (fun K Q hK hQ=>?_);go_wp2_with fail;refine oV.out.mono ?_;rintro e w2 ⟨bT,hm,hc,⟨older,hol,rfl⟩,d',hg⟩;have bC:=zh hm;have aD:=zh hc;have HG2:=zh hg;clear hm hc hg;refine hQ _ _ _ (fun a' ha=>?_);refine⟨ha,?_⟩;rw [HT.out];exact aj.after (aj.then HM.out HC.out (aj.after (aj.ended bC.out aD.out HG2.out (ae.refl _ _) ⟨older,hol,rfl⟩) dW.out)) aC.out
  | ok v2 s2=>
   rw [hr2] at oV;have AX : tgt=match both op v v2 with
    | some n=>.ok n s2
    | none=>.stop 2 s2:=by rw [ht3,hr2];rfl
   have AY:=zh (fun w=>ZO op v v2 w);clear hr2 ht3 ho;go_wp2_with fail;refine y7 mX (aJ L aP) rfl (by kernel_rfl) ?_;rw [← aH];clear aH;have hS:ae (aJ L aP) wD wD:=ae.refl _ _
   repeat ((with_reducible show dX _ _ _ _ _ _ _ _ _);(first|refine iO ?_|refine iZ rfl ?_|refine ja rfl rfl (by kernel_rfl) (fun _ _=>?_)|refine jb rfl rfl rfl (by first|exact Z1.out|exact Z2.out) (by assumption) (fun _ _=>?_));go_wp2_with fail)
   refine mg rfl rfl (fun K Q hK hQ=>?_);go_wp2_with fail;refine oV.out.mono ?_;rintro e w2 ⟨bT,hm,hc,rfl,hg⟩;have bC:=zh hm;have aD:=zh hc;have HG2:=zh hg;clear hm hc hg hS;go_wp2_with fail;refine⟨aD.out,?_⟩;have hS:=aD.out
   repeat ((with_reducible show dX _ _ _ _ _ _ _ _ _);(first|refine iO ?_|refine iZ rfl ?_|refine ja rfl rfl (by kernel_rfl) (fun _ _=>?_)|refine jb rfl rfl rfl (by first|exact Z1.out|exact Z2.out) (by assumption) (fun _ _=>?_));go_wp2_with fail)
   refine mg rfl rfl (fun K Q hK hQ=>?_);go_wp2_with fail;refine(AY.out w2).mono ?_;rintro e w3 ⟨uR,hc3⟩;have bz:=zh hc3;cases hbb : both op v v2 with
   | some n=>
    rw [hbb] at uR AX;simp only [j3] at uR;subst uR;have HT:=zh (show tgt = .ok n s2 from AX);clear hc3 AX hbb hS;go_wp2_with fail;refine⟨aD.out.then bz.out.weak,?_⟩;have hS:=aD.out.then bz.out.weak
    repeat ((with_reducible show dX _ _ _ _ _ _ _ _ _);(first|refine iO ?_|refine iZ rfl ?_|refine ja rfl rfl (by kernel_rfl) (fun _ _=>?_)|refine jb rfl rfl rfl (by first|exact Z1.out|exact Z2.out) (by assumption) (fun _ _=>?_));go_wp2_with fail)
    clear hS q0 q5 q7 b0' xh AV;go_wp2_with fail;go_ret
    rw [HT.out];exact aj.after (aj.then HM.out HC.out (aj.after (aj.done bC.out aD.out HG2.out bz.out rfl) dW.out)) aC.out
   | none=>
    rw [hbb] at uR AX;simp only [j3] at uR;subst uR;have HT:=zh (show tgt = .stop 2 s2 from AX);have HS:=zh (fun w=>Az 2 w);clear hc3 AX hbb hS;go_wp2_with fail;refine⟨aD.out.then bz.out.weak,?_⟩;have hS:=aD.out.then bz.out.weak
    repeat ((with_reducible show dX _ _ _ _ _ _ _ _ _);(first|refine iO ?_|refine iZ rfl ?_|refine ja rfl rfl (by kernel_rfl) (fun _ _=>?_)|refine jb rfl rfl rfl (by first|exact Z1.out|exact Z2.out) (by assumption) (fun _ _=>?_));go_wp2_with fail)
    clear hS q0 q5 q7 b0' xh AV;go_wp2_with fail;refine(HS.out w3).mono ?_;rintro _ _ ⟨⟨older,hol,rfl⟩,hw⟩;have hw:=hw.symm;subst hw;go_wp2_with fail;refine⟨rfl,?_⟩;rw [HT.out];exact aj.after (aj.then HM.out HC.out (aj.after (aj.ended bC.out aD.out HG2.out bz.out ⟨older,hol,rfl⟩) dW.out)) aC.out
end Go.Proofs.YtechofppmnnomaaGreatDoor
namespace Go.Mq.Run
open Go Go.RowKit Go.Mq Go.Mq.Tree
theorem Gw {w:World} {L:Lay} {d:Nat} {s:St} {ov:Value} (h:Going w L d s ov) {q n:Nm} {b k:Nat} (hd:L.ak q n=some (b,k)) : ∃ l:List Int,s.vs q n=some l∧l.length=k ∧ ∀ i,i < k→w.cell? ⟨b,i,none⟩=some (num (l.getD i 0)):=by
 have:=h.dyn q n;rw [hd] at this;obtain⟨l,h1,h2,h3⟩:=this;refine⟨l,h1,h2,fun i hi=>h3.cell i _ ?_⟩;have hi' : i < l.length:=by omega
 simp [hi']
end Go.Mq.Run
namespace Go.Proofs.YtechofppmnnomaaGreatDoor
open Go Go.RowKit Go.Mq Go.Mq.Tree Go.Mq.Run
open Go.Mq.Check (fG bZ bK dx)
set_option maxRecDepth 100000
set_option maxHeartbeats 4000000
theorem ZY (g:Nat) (hE:ji g) {L:Lay} {d:Nat} {q:Nm} {fr:Fr} {p:Nat} {s:St} {w:World} {ov:Value} {ob:Option Nat} {u:Value} {m:Mod} {n:Nm} {i:E} {ba k:Nat} {mq:Mod} (h:Going w L d s ov) (hq:L.M q=some m) (hfr:eG w ob fr) (hx:aY w L.Fix (.item p [] n i) [u]) (hfe:bK i) (eB:L.M q=some mq) (fC:L.ak q n=some (ba,k)) (ho : (fns L.M (g + 1)).e d q fr (.item p [] n i) s ≠ .stuck) :
  Calls Tryz.prog 117 #[ptr L.br,ptr (L.pb q),.map ob,u] w (aj w L d ov [] (fun _ n e=>e = .returned (num n)) ((fns L.M (g + 1)).e d q fr (.item p [] n i) s)):=by
 obtain⟨b,ul,he,hF,hb,hxl⟩:=hx;cases he
 obtain⟨wA,ay⟩ : ∃ x,w.alloc (.cells #[ptr b] 166)=x:=⟨_,rfl⟩
 have hc0:ae [] w wA:=by rw [← ay];exact(ae.refl _ _).alloc _
 have hb0:=hb.kept hc0 (by simp);have hbx:ag wA w.heap.size #[ptr b] 166:=by rw [← ay];exact ag.new w #[ptr b] 166
 have b0:=hbx.cell 0 _ rfl;have HX:=zh hb0;have gZ:=zh hbx;have HF:=zh hF;have d0:=hb0.cell 0 _ rfl;have d3:=hb0.cell 3 _ rfl;have aC:=zh hc0;have H:=zh (h.kept hc0);have di:=zh (hfr.kept hc0 (by simp));obtain⟨tgt,ht⟩ : ∃ o,o=(fns L.M (g + 1)).e d q fr (.item p [] n i) s:=⟨_,rfl⟩
 have ht2 : tgt=((fns L.M g).e d q fr i s).bind (fun k s=>ib (s.vs q n) k s):=by
  have hw : bV q []=q:=rfl;rw [ht]
  show (if (L.M (bV q [])).isSome then _ else _)=_
  rw [hw,eB]
  rfl
 rw [← ht] at ho ⊢;obtain⟨wD,aH⟩ : ∃ x,x=wA.drew:=⟨_,rfl⟩
 have bg:ae [] wA wD:=by rw [aH];exact(ae.refl [] wA).drew
 have dW:=zh bg;have gD:=zh (H.out.kept bg);have bS:=zh (hE gD.out hq (di.out.kept bg (by simp)) ((hxl.kept hc0 (by simp)).kept bg (by simp)) hfe (fun hs=>ho (by rw [ht2,hs];rfl)));have q0:=(hbx.kept bg (by simp)).cell 0 _ rfl;have q4:=(hb0.kept bg (by simp)).cell 4 _ rfl;have q6:=(hb0.kept bg (by simp)).cell 6 _ rfl;obtain⟨c0,c1,c2,c3,c4,bm,hpb,iD,hlk⟩:=tX gD.out eB;have p5:=hpb.cell 5 _ rfl;have hlk2 : ∀ w',ae (aJ L ov) wD w'→(Instr.lookup 99 (.map (some bm)) (str n) false).run Tryz.prog w' = .ok (.slice (some ⟨ba,0,none⟩) k k) w':=fun w' hc=>by
  have:=hlk w' _ hc gD.out.dz n;rw [fC] at this;exact this
 have fU:=zh hlk2;have Z1:=zh (bX.of (X:=aJ L ov) q0 (H.out.gT hbx (by decide) (by decide)));have Z2:=zh (bX.of (X:=aJ L ov) q4 (fun hm=>H.out.dz b hm hF));have Z3:=zh (bX.of (X:=aJ L ov) p5 (fun hm=>H.out.dz _ hm iD));clear h hb hb0 hc0 hfr hxl hbx ht hq hfe eB bg hpb hlk hlk2 iD
 go_enter Tryz.func117,Tryz.ntmps117
 go_wp2_with fail;refine y7 (Gx [100]) (aJ L ov) rfl (by kernel_rfl) ?_;rw [← aH];clear aH ay;have hS:ae (aJ L ov) wD wD:=ae.refl _ _
 repeat ((with_reducible show dX _ _ _ _ _ _ _ _ _);(first|refine iO ?_|refine iZ rfl ?_|refine ja rfl rfl (by kernel_rfl) (fun _ _=>?_)|refine jb rfl rfl rfl (by first|exact Z1.out|exact Z2.out|exact Z3.out) (by assumption) (fun _ _=>?_));go_wp2_with fail)
 refine Gy rfl rfl rfl rfl fU.out ?_;go_wp2_with fail
 repeat ((with_reducible show dX _ _ _ _ _ _ _ _ _);(first|refine iO ?_|refine iZ rfl ?_|refine ja rfl rfl (by kernel_rfl) (fun _ _=>?_)|refine jb rfl rfl rfl (by first|exact Z1.out|exact Z2.out|exact Z3.out) (by assumption) (fun _ _=>?_));go_wp2_with fail)
 refine mg rfl rfl (fun K Q hK hQ=>?_);go_wp2_with fail;cases hr : (fns L.M g).e d q fr i s with
 | stuck=>exact absurd (by rw [ht2,hr];rfl) ho
 | stop way s'=>
  rw [hr] at bS;have HT:=zh (show tgt = .stop way s' by rw [ht2,hr];rfl);clear hr ht2 ho;refine bS.out.mono ?_;rintro e w1 ⟨aP,hm,hc,⟨older,hol,rfl⟩,d',hg⟩;have HM:=zh hm;have HC:=zh hc;have HG:=zh hg;clear hm hc hg;refine hQ _ _ _ (fun a' ha=>?_);refine⟨ha,?_⟩;rw [HT.out];exact aj.after (aj.after (aj.ended HM.out HC.out HG.out (ae.refl _ _) ⟨older,hol,rfl⟩) dW.out) aC.out
 | ok v s'=>
  rw [hr] at bS;have ht3 : tgt=ib (s'.vs q n) v s':=by rw [ht2,hr];rfl
  clear hr ht2 ho;refine bS.out.mono ?_;rintro e w1 ⟨aP,hm,hc,rfl,hg⟩;have HM:=zh hm;have HC:=zh hc;have HG:=zh hg;obtain⟨l,hvs,hll,hcells⟩:=Gw hg fC;have y8:=(hg.lay.arr fC).2.2;have HI:=zh (Gs ba k k y8 v w1);rw [hvs] at ht3;have uS:=zh hcells;clear hm hc hg hvs hcells hS;by_cases hin : 0≤v∧v < (k:Int)
  ·have HT:=zh (show tgt = .ok (l.getD v.toNat 0) s' by rw [ht3,ib,if_pos (by rw [hll];exact hin)])
   simp only [if_pos hin] at HI;have hcell:=uS.out v.toNat (by omega);clear ht3 hin hll;go_wp2_with fail;refine⟨HC.out,?_⟩;have hS:=HC.out
   repeat ((with_reducible show dX _ _ _ _ _ _ _ _ _);(first|refine iO ?_|refine iZ rfl ?_|refine ja rfl rfl (by kernel_rfl) (fun _ _=>?_)|refine jb rfl rfl rfl (by first|exact Z1.out|exact Z2.out|exact Z3.out) (by assumption) (fun _ _=>?_));go_wp2_with fail)
   refine mg rfl rfl (fun K Q hK hQ=>?_);go_wp2_with fail;refine HI.out.mono ?_;rintro _ _ ⟨rfl,hw⟩;have hw:=hw.symm;subst hw;go_wp2_with fail;refine⟨HC.out,?_⟩
   repeat ((with_reducible show dX _ _ _ _ _ _ _ _ _);(first|refine iO ?_|refine iZ rfl ?_|refine ja rfl rfl (by kernel_rfl) (fun _ _=>?_)|refine jb rfl rfl rfl (by first|exact Z1.out|exact Z2.out|exact Z3.out) (by assumption) (fun _ _=>?_));go_wp2_with fail)
   refine mg rfl rfl (fun K Q hK hQ=>?_);go_wp2_with fail;refine⟨HC.out,?_⟩
   repeat ((with_reducible show dX _ _ _ _ _ _ _ _ _);(first|refine iO ?_|refine iZ rfl ?_|refine ja rfl rfl (by kernel_rfl) (fun _ _=>?_)|refine jb rfl rfl rfl (by first|exact Z1.out|exact Z2.out|exact Z3.out) (by assumption) (fun _ _=>?_));go_wp2_with fail)
   clear hS Z1 Z2 Z3;go_wp2_with fail;go_ret
   rw [HT.out];exact aj.after (aj.after (aj.done HM.out HC.out HG.out (ae.refl _ _) rfl) dW.out) aC.out
  ·have HT:=zh (show tgt = .stop 3 s' by rw [ht3,ib,if_neg (by rw [hll];exact hin)])
   simp only [if_neg hin] at HI;clear ht3 hin hll;go_wp2_with fail;refine⟨HC.out,?_⟩;have hS:=HC.out
   repeat ((with_reducible show dX _ _ _ _ _ _ _ _ _);(first|refine iO ?_|refine iZ rfl ?_|refine ja rfl rfl (by kernel_rfl) (fun _ _=>?_)|refine jb rfl rfl rfl (by first|exact Z1.out|exact Z2.out|exact Z3.out) (by assumption) (fun _ _=>?_));go_wp2_with fail)
   refine mg rfl rfl (fun K Q hK hQ=>?_);go_wp2_with fail;refine HI.out.mono ?_;rintro _ _ ⟨⟨older,hol,rfl⟩,hw⟩;have hw:=hw.symm;subst hw;refine hQ _ _ _ (fun a' ha=>?_);refine⟨ha,?_⟩;rw [HT.out];exact aj.after (aj.after (aj.ended HM.out HC.out HG.out (ae.refl _ _) ⟨older,hol,rfl⟩) dW.out) aC.out
theorem ZZ (g:Nat) (hE:ji g) {L:Lay} {d:Nat} {q:Nm} {fr:Fr} {p:Nat} {s:St} {w:World} {ov:Value} {ob:Option Nat} {u:Value} {m:Mod} {n:Nm} {i:E} {mq:Mod} (h:Going w L d s ov) (hq:L.M q=some m) (hfr:eG w ob fr) (hx:aY w L.Fix (.item p [] n i) [u]) (hfe:bK i) (eB:L.M q=some mq) (fC:L.ak q n=none) (ho : (fns L.M (g + 1)).e d q fr (.item p [] n i) s ≠ .stuck) :
  Calls Tryz.prog 117 #[ptr L.br,ptr (L.pb q),.map ob,u] w (aj w L d ov [] (fun _ n e=>e = .returned (num n)) ((fns L.M (g + 1)).e d q fr (.item p [] n i) s)):=by
 obtain⟨b,ul,he,hF,hb,hxl⟩:=hx;cases he
 obtain⟨wA,ay⟩ : ∃ x,w.alloc (.cells #[ptr b] 166)=x:=⟨_,rfl⟩
 have hc0:ae [] w wA:=by rw [← ay];exact(ae.refl _ _).alloc _
 have hb0:=hb.kept hc0 (by simp);have hbx:ag wA w.heap.size #[ptr b] 166:=by rw [← ay];exact ag.new w #[ptr b] 166
 have b0:=hbx.cell 0 _ rfl;have HX:=zh hb0;have gZ:=zh hbx;have HF:=zh hF;have d0:=hb0.cell 0 _ rfl;have d3:=hb0.cell 3 _ rfl;have aC:=zh hc0;have H:=zh (h.kept hc0);have di:=zh (hfr.kept hc0 (by simp));obtain⟨tgt,ht⟩ : ∃ o,o=(fns L.M (g + 1)).e d q fr (.item p [] n i) s:=⟨_,rfl⟩
 have ht2 : tgt=((fns L.M g).e d q fr i s).bind (fun k s=>ib (s.vs q n) k s):=by
  have hw : bV q []=q:=rfl;rw [ht]
  show (if (L.M (bV q [])).isSome then _ else _)=_
  rw [hw,eB]
  rfl
 rw [← ht] at ho ⊢;obtain⟨wD,aH⟩ : ∃ x,x=wA.drew:=⟨_,rfl⟩
 have bg:ae [] wA wD:=by rw [aH];exact(ae.refl [] wA).drew
 have dW:=zh bg;have gD:=zh (H.out.kept bg);have bS:=zh (hE gD.out hq (di.out.kept bg (by simp)) ((hxl.kept hc0 (by simp)).kept bg (by simp)) hfe (fun hs=>ho (by rw [ht2,hs];rfl)));have q0:=(hbx.kept bg (by simp)).cell 0 _ rfl;have q4:=(hb0.kept bg (by simp)).cell 4 _ rfl;have q6:=(hb0.kept bg (by simp)).cell 6 _ rfl;obtain⟨c0,c1,c2,c3,c4,bm,hpb,iD,hlk⟩:=tX gD.out eB;have p5:=hpb.cell 5 _ rfl;have hlk2 : ∀ w',ae (aJ L ov) wD w'→(Instr.lookup 99 (.map (some bm)) (str n) false).run Tryz.prog w' = .ok ah w':=fun w' hc=>by
  have:=hlk w' _ hc gD.out.dz n;rw [fC] at this;exact this
 have fU:=zh hlk2;have Z1:=zh (bX.of (X:=aJ L ov) q0 (H.out.gT hbx (by decide) (by decide)));have Z2:=zh (bX.of (X:=aJ L ov) q4 (fun hm=>H.out.dz b hm hF));have Z3:=zh (bX.of (X:=aJ L ov) p5 (fun hm=>H.out.dz _ hm iD));clear h hb hb0 hc0 hfr hxl hbx ht hq hfe eB bg hpb hlk hlk2 iD
 go_enter Tryz.func117,Tryz.ntmps117
 go_wp2_with fail;refine y7 (Gx [100]) (aJ L ov) rfl (by kernel_rfl) ?_;rw [← aH];clear aH ay;have hS:ae (aJ L ov) wD wD:=ae.refl _ _
 repeat ((with_reducible show dX _ _ _ _ _ _ _ _ _);(first|refine iO ?_|refine iZ rfl ?_|refine ja rfl rfl (by kernel_rfl) (fun _ _=>?_)|refine jb rfl rfl rfl (by first|exact Z1.out|exact Z2.out|exact Z3.out) (by assumption) (fun _ _=>?_));go_wp2_with fail)
 refine Gy rfl rfl rfl rfl fU.out ?_;go_wp2_with fail
 repeat ((with_reducible show dX _ _ _ _ _ _ _ _ _);(first|refine iO ?_|refine iZ rfl ?_|refine ja rfl rfl (by kernel_rfl) (fun _ _=>?_)|refine jb rfl rfl rfl (by first|exact Z1.out|exact Z2.out|exact Z3.out) (by assumption) (fun _ _=>?_));go_wp2_with fail)
 refine mg rfl rfl (fun K Q hK hQ=>?_);go_wp2_with fail;cases hr : (fns L.M g).e d q fr i s with
 | stuck=>exact absurd (by rw [ht2,hr];rfl) ho
 | stop way s'=>
  rw [hr] at bS;have HT:=zh (show tgt = .stop way s' by rw [ht2,hr];rfl);clear hr ht2 ho;refine bS.out.mono ?_;rintro e w1 ⟨aP,hm,hc,⟨older,hol,rfl⟩,d',hg⟩;have HM:=zh hm;have HC:=zh hc;have HG:=zh hg;clear hm hc hg;refine hQ _ _ _ (fun a' ha=>?_);refine⟨ha,?_⟩;rw [HT.out];exact aj.after (aj.after (aj.ended HM.out HC.out HG.out (ae.refl _ _) ⟨older,hol,rfl⟩) dW.out) aC.out
 | ok v s'=>
  rw [hr] at bS;have ht3 : tgt=ib (s'.vs q n) v s':=by rw [ht2,hr];rfl
  clear hr ht2 ho;refine bS.out.mono ?_;rintro e w1 ⟨aP,hm,hc,rfl,hg⟩;have HM:=zh hm;have HC:=zh hc;have HG:=zh hg;have hdn:=hg.dyn q n;rw [fC] at hdn;simp only at hdn;rw [hdn] at ht3;have HT:=zh (show tgt = .stop 3 s' from ht3);have HI:=zh (Gr v w1);clear hm hc hg hdn ht3 hS;go_wp2_with fail;refine⟨HC.out,?_⟩;have hS:=HC.out
  repeat ((with_reducible show dX _ _ _ _ _ _ _ _ _);(first|refine iO ?_|refine iZ rfl ?_|refine ja rfl rfl (by kernel_rfl) (fun _ _=>?_)|refine jb rfl rfl rfl (by first|exact Z1.out|exact Z2.out|exact Z3.out) (by assumption) (fun _ _=>?_));go_wp2_with fail)
  refine mg rfl rfl (fun K Q hK hQ=>?_);go_wp2_with fail;refine HI.out.mono ?_;rintro _ _ ⟨⟨older,hol,rfl⟩,hw⟩;have hw:=hw.symm;subst hw;refine hQ _ _ _ (fun a' ha=>?_);refine⟨ha,?_⟩;rw [HT.out];exact aj.after (aj.after (aj.ended HM.out HC.out HG.out (ae.refl _ _) ⟨older,hol,rfl⟩) dW.out) aC.out
theorem Z0 (g:Nat) (hE:ji g) {L:Lay} {d:Nat} {q:Nm} {fr:Fr} {p:Nat} {s:St} {w:World} {ov:Value} {ob:Option Nat} {u:Value} {m:Mod} {mm:Nm} {n:Nm} {i:E} {ba k:Nat} {mq:Mod} (h:Going w L d s ov) (hq:L.M q=some m) (hfr:eG w ob fr) (hx:aY w L.Fix (.item p mm n i) [u]) (hfe:bK i) (hmm : mm≠[]) (eB:L.M mm=some mq) (fC:L.ak mm n=some (ba,k)) (ho : (fns L.M (g + 1)).e d q fr (.item p mm n i) s ≠ .stuck) :
  Calls Tryz.prog 117 #[ptr L.br,ptr (L.pb q),.map ob,u] w (aj w L d ov [] (fun _ n e=>e = .returned (num n)) ((fns L.M (g + 1)).e d q fr (.item p mm n i) s)):=by
 obtain⟨b,ul,he,hF,hb,hxl⟩:=hx;cases he
 obtain⟨wA,ay⟩ : ∃ x,w.alloc (.cells #[ptr b] 166)=x:=⟨_,rfl⟩
 have hc0:ae [] w wA:=by rw [← ay];exact(ae.refl _ _).alloc _
 have hb0:=hb.kept hc0 (by simp);have hbx:ag wA w.heap.size #[ptr b] 166:=by rw [← ay];exact ag.new w #[ptr b] 166
 have b0:=hbx.cell 0 _ rfl;have HX:=zh hb0;have gZ:=zh hbx;have HF:=zh hF;have d0:=hb0.cell 0 _ rfl;have d3:=hb0.cell 3 _ rfl;have aC:=zh hc0;have H:=zh (h.kept hc0);have di:=zh (hfr.kept hc0 (by simp));obtain⟨tgt,ht⟩ : ∃ o,o=(fns L.M (g + 1)).e d q fr (.item p mm n i) s:=⟨_,rfl⟩
 have ht2 : tgt=((fns L.M g).e d q fr i s).bind (fun k s=>ib (s.vs mm n) k s):=by
  have hw : bV q mm=mm:=by rw [bV,if_neg hmm]
  rw [ht]
  show (if (L.M (bV q mm)).isSome then _ else _)=_
  rw [hw,eB]
  rfl
 rw [← ht] at ho ⊢;obtain⟨wD,aH⟩ : ∃ x,x=wA.drew.drew:=⟨_,rfl⟩
 have bg:ae [] wA wD:=by rw [aH];exact(ae.refl [] wA).drew.drew
 have dW:=zh bg;have gD:=zh (H.out.kept bg);have bS:=zh (hE gD.out hq (di.out.kept bg (by simp)) ((hxl.kept hc0 (by simp)).kept bg (by simp)) hfe (fun hs=>ho (by rw [ht2,hs];rfl)));have q0:=(hbx.kept bg (by simp)).cell 0 _ rfl;have q4:=(hb0.kept bg (by simp)).cell 4 _ rfl;have q6:=(hb0.kept bg (by simp)).cell 6 _ rfl;obtain⟨c0,c1,c2,c3,c4,bm,hpb,iD,hlk⟩:=tX gD.out eB;have p5:=hpb.cell 5 _ rfl;have hlk2 : ∀ w',ae (aJ L ov) wD w'→(Instr.lookup 99 (.map (some bm)) (str n) false).run Tryz.prog w' = .ok (.slice (some ⟨ba,0,none⟩) k k) w':=fun w' hc=>by
  have:=hlk w' _ hc gD.out.dz n;rw [fC] at this;exact this
 have fU:=zh hlk2;have Z1:=zh (bX.of (X:=aJ L ov) q0 (H.out.gT hbx (by decide) (by decide)));have Z2:=zh (bX.of (X:=aJ L ov) q4 (fun hm=>H.out.dz b hm hF));have Z3:=zh (bX.of (X:=aJ L ov) p5 (fun hm=>H.out.dz _ hm iD));have r0:=H.out.run.cell 0 _ rfl;obtain⟨bp,Kl,hwb,hwf,jC⟩:=Gu H.out;have w0:=hwb.cell 0 _ rfl;have hl0:=jC wA.drew [] (ae.refl _ _).drew (by simp) mm;rw [eB] at hl0;simp only at hl0;have hm1 : (mm == [])=false:=by simpa using hmm
 have hm2 : (mm != [])=true:=by simpa using hmm
 clear jC hwb hwf hmm;clear h hb hb0 hc0 hfr hxl hbx ht hq hfe eB bg hpb hlk hlk2 iD
 go_enter Tryz.func117,Tryz.ntmps117
 go_wp2_with fail
 go_region
 all_goals (try go_wp2_with fail)
 refine y7 (Gx [100]) (aJ L ov) rfl (by kernel_rfl) ?_;rw [← aH];clear aH ay;have hS:ae (aJ L ov) wD wD:=ae.refl _ _
 repeat ((with_reducible show dX _ _ _ _ _ _ _ _ _);(first|refine iO ?_|refine iZ rfl ?_|refine ja rfl rfl (by kernel_rfl) (fun _ _=>?_)|refine jb rfl rfl rfl (by first|exact Z1.out|exact Z2.out|exact Z3.out) (by assumption) (fun _ _=>?_));go_wp2_with fail)
 refine Gy rfl rfl rfl rfl fU.out ?_;go_wp2_with fail
 repeat ((with_reducible show dX _ _ _ _ _ _ _ _ _);(first|refine iO ?_|refine iZ rfl ?_|refine ja rfl rfl (by kernel_rfl) (fun _ _=>?_)|refine jb rfl rfl rfl (by first|exact Z1.out|exact Z2.out|exact Z3.out) (by assumption) (fun _ _=>?_));go_wp2_with fail)
 refine mg rfl rfl (fun K Q hK hQ=>?_);go_wp2_with fail;cases hr : (fns L.M g).e d q fr i s with
 | stuck=>exact absurd (by rw [ht2,hr];rfl) ho
 | stop way s'=>
  rw [hr] at bS;have HT:=zh (show tgt = .stop way s' by rw [ht2,hr];rfl);clear hr ht2 ho;refine bS.out.mono ?_;rintro e w1 ⟨aP,hm,hc,⟨older,hol,rfl⟩,d',hg⟩;have HM:=zh hm;have HC:=zh hc;have HG:=zh hg;clear hm hc hg;refine hQ _ _ _ (fun a' ha=>?_);refine⟨ha,?_⟩;rw [HT.out];exact aj.after (aj.after (aj.ended HM.out HC.out HG.out (ae.refl _ _) ⟨older,hol,rfl⟩) dW.out) aC.out
 | ok v s'=>
  rw [hr] at bS;have ht3 : tgt=ib (s'.vs mm n) v s':=by rw [ht2,hr];rfl
  clear hr ht2 ho;refine bS.out.mono ?_;rintro e w1 ⟨aP,hm,hc,rfl,hg⟩;have HM:=zh hm;have HC:=zh hc;have HG:=zh hg;obtain⟨l,hvs,hll,hcells⟩:=Gw hg fC;have y8:=(hg.lay.arr fC).2.2;have HI:=zh (Gs ba k k y8 v w1);rw [hvs] at ht3;have uS:=zh hcells;clear hm hc hg hvs hcells hS;by_cases hin : 0≤v∧v < (k:Int)
  ·have HT:=zh (show tgt = .ok (l.getD v.toNat 0) s' by rw [ht3,ib,if_pos (by rw [hll];exact hin)])
   simp only [if_pos hin] at HI;have hcell:=uS.out v.toNat (by omega);clear ht3 hin hll;go_wp2_with fail;refine⟨HC.out,?_⟩;have hS:=HC.out
   repeat ((with_reducible show dX _ _ _ _ _ _ _ _ _);(first|refine iO ?_|refine iZ rfl ?_|refine ja rfl rfl (by kernel_rfl) (fun _ _=>?_)|refine jb rfl rfl rfl (by first|exact Z1.out|exact Z2.out|exact Z3.out) (by assumption) (fun _ _=>?_));go_wp2_with fail)
   refine mg rfl rfl (fun K Q hK hQ=>?_);go_wp2_with fail;refine HI.out.mono ?_;rintro _ _ ⟨rfl,hw⟩;have hw:=hw.symm;subst hw;go_wp2_with fail;refine⟨HC.out,?_⟩
   repeat ((with_reducible show dX _ _ _ _ _ _ _ _ _);(first|refine iO ?_|refine iZ rfl ?_|refine ja rfl rfl (by kernel_rfl) (fun _ _=>?_)|refine jb rfl rfl rfl (by first|exact Z1.out|exact Z2.out|exact Z3.out) (by assumption) (fun _ _=>?_));go_wp2_with fail)
   refine mg rfl rfl (fun K Q hK hQ=>?_);go_wp2_with fail;refine⟨HC.out,?_⟩
   repeat ((with_reducible show dX _ _ _ _ _ _ _ _ _);(first|refine iO ?_|refine iZ rfl ?_|refine ja rfl rfl (by kernel_rfl) (fun _ _=>?_)|refine jb rfl rfl rfl (by first|exact Z1.out|exact Z2.out|exact Z3.out) (by assumption) (fun _ _=>?_));go_wp2_with fail)
   clear hS Z1 Z2 Z3;go_wp2_with fail;go_ret
   rw [HT.out];exact aj.after (aj.after (aj.done HM.out HC.out HG.out (ae.refl _ _) rfl) dW.out) aC.out
  ·have HT:=zh (show tgt = .stop 3 s' by rw [ht3,ib,if_neg (by rw [hll];exact hin)])
   simp only [if_neg hin] at HI;clear ht3 hin hll;go_wp2_with fail;refine⟨HC.out,?_⟩;have hS:=HC.out
   repeat ((with_reducible show dX _ _ _ _ _ _ _ _ _);(first|refine iO ?_|refine iZ rfl ?_|refine ja rfl rfl (by kernel_rfl) (fun _ _=>?_)|refine jb rfl rfl rfl (by first|exact Z1.out|exact Z2.out|exact Z3.out) (by assumption) (fun _ _=>?_));go_wp2_with fail)
   refine mg rfl rfl (fun K Q hK hQ=>?_);go_wp2_with fail;refine HI.out.mono ?_;rintro _ _ ⟨⟨older,hol,rfl⟩,hw⟩;have hw:=hw.symm;subst hw;refine hQ _ _ _ (fun a' ha=>?_);refine⟨ha,?_⟩;rw [HT.out];exact aj.after (aj.after (aj.ended HM.out HC.out HG.out (ae.refl _ _) ⟨older,hol,rfl⟩) dW.out) aC.out
theorem Z6 (g:Nat) (hE:ji g) {L:Lay} {d:Nat} {q:Nm} {fr:Fr} {p:Nat} {s:St} {w:World} {ov:Value} {ob:Option Nat} {u:Value} {m:Mod} {mm:Nm} {n:Nm} {i:E} {mq:Mod} (h:Going w L d s ov) (hq:L.M q=some m) (hfr:eG w ob fr) (hx:aY w L.Fix (.item p mm n i) [u]) (hfe:bK i) (hmm : mm≠[]) (eB:L.M mm=some mq) (fC:L.ak mm n=none) (ho : (fns L.M (g + 1)).e d q fr (.item p mm n i) s ≠ .stuck) :
  Calls Tryz.prog 117 #[ptr L.br,ptr (L.pb q),.map ob,u] w (aj w L d ov [] (fun _ n e=>e = .returned (num n)) ((fns L.M (g + 1)).e d q fr (.item p mm n i) s)):=by
 obtain⟨b,ul,he,hF,hb,hxl⟩:=hx;cases he
 obtain⟨wA,ay⟩ : ∃ x,w.alloc (.cells #[ptr b] 166)=x:=⟨_,rfl⟩
 have hc0:ae [] w wA:=by rw [← ay];exact(ae.refl _ _).alloc _
 have hb0:=hb.kept hc0 (by simp);have hbx:ag wA w.heap.size #[ptr b] 166:=by rw [← ay];exact ag.new w #[ptr b] 166
 have b0:=hbx.cell 0 _ rfl;have HX:=zh hb0;have gZ:=zh hbx;have HF:=zh hF;have d0:=hb0.cell 0 _ rfl;have d3:=hb0.cell 3 _ rfl;have aC:=zh hc0;have H:=zh (h.kept hc0);have di:=zh (hfr.kept hc0 (by simp));obtain⟨tgt,ht⟩ : ∃ o,o=(fns L.M (g + 1)).e d q fr (.item p mm n i) s:=⟨_,rfl⟩
 have ht2 : tgt=((fns L.M g).e d q fr i s).bind (fun k s=>ib (s.vs mm n) k s):=by
  have hw : bV q mm=mm:=by rw [bV,if_neg hmm]
  rw [ht]
  show (if (L.M (bV q mm)).isSome then _ else _)=_
  rw [hw,eB]
  rfl
 rw [← ht] at ho ⊢;obtain⟨wD,aH⟩ : ∃ x,x=wA.drew.drew:=⟨_,rfl⟩
 have bg:ae [] wA wD:=by rw [aH];exact(ae.refl [] wA).drew.drew
 have dW:=zh bg;have gD:=zh (H.out.kept bg);have bS:=zh (hE gD.out hq (di.out.kept bg (by simp)) ((hxl.kept hc0 (by simp)).kept bg (by simp)) hfe (fun hs=>ho (by rw [ht2,hs];rfl)));have q0:=(hbx.kept bg (by simp)).cell 0 _ rfl;have q4:=(hb0.kept bg (by simp)).cell 4 _ rfl;have q6:=(hb0.kept bg (by simp)).cell 6 _ rfl;obtain⟨c0,c1,c2,c3,c4,bm,hpb,iD,hlk⟩:=tX gD.out eB;have p5:=hpb.cell 5 _ rfl;have hlk2 : ∀ w',ae (aJ L ov) wD w'→(Instr.lookup 99 (.map (some bm)) (str n) false).run Tryz.prog w' = .ok ah w':=fun w' hc=>by
  have:=hlk w' _ hc gD.out.dz n;rw [fC] at this;exact this
 have fU:=zh hlk2;have Z1:=zh (bX.of (X:=aJ L ov) q0 (H.out.gT hbx (by decide) (by decide)));have Z2:=zh (bX.of (X:=aJ L ov) q4 (fun hm=>H.out.dz b hm hF));have Z3:=zh (bX.of (X:=aJ L ov) p5 (fun hm=>H.out.dz _ hm iD));have r0:=H.out.run.cell 0 _ rfl;obtain⟨bp,Kl,hwb,hwf,jC⟩:=Gu H.out;have w0:=hwb.cell 0 _ rfl;have hl0:=jC wA.drew [] (ae.refl _ _).drew (by simp) mm;rw [eB] at hl0;simp only at hl0;have hm1 : (mm == [])=false:=by simpa using hmm
 have hm2 : (mm != [])=true:=by simpa using hmm
 clear jC hwb hwf hmm;clear h hb hb0 hc0 hfr hxl hbx ht hq hfe eB bg hpb hlk hlk2 iD
 go_enter Tryz.func117,Tryz.ntmps117
 go_wp2_with fail
 go_region
 all_goals (try go_wp2_with fail)
 refine y7 (Gx [100]) (aJ L ov) rfl (by kernel_rfl) ?_;rw [← aH];clear aH ay;have hS:ae (aJ L ov) wD wD:=ae.refl _ _
 repeat ((with_reducible show dX _ _ _ _ _ _ _ _ _);(first|refine iO ?_|refine iZ rfl ?_|refine ja rfl rfl (by kernel_rfl) (fun _ _=>?_)|refine jb rfl rfl rfl (by first|exact Z1.out|exact Z2.out|exact Z3.out) (by assumption) (fun _ _=>?_));go_wp2_with fail)
 refine Gy rfl rfl rfl rfl fU.out ?_;go_wp2_with fail
 repeat ((with_reducible show dX _ _ _ _ _ _ _ _ _);(first|refine iO ?_|refine iZ rfl ?_|refine ja rfl rfl (by kernel_rfl) (fun _ _=>?_)|refine jb rfl rfl rfl (by first|exact Z1.out|exact Z2.out|exact Z3.out) (by assumption) (fun _ _=>?_));go_wp2_with fail)
 refine mg rfl rfl (fun K Q hK hQ=>?_);go_wp2_with fail;cases hr : (fns L.M g).e d q fr i s with
 | stuck=>exact absurd (by rw [ht2,hr];rfl) ho
 | stop way s'=>
  rw [hr] at bS;have HT:=zh (show tgt = .stop way s' by rw [ht2,hr];rfl);clear hr ht2 ho;refine bS.out.mono ?_;rintro e w1 ⟨aP,hm,hc,⟨older,hol,rfl⟩,d',hg⟩;have HM:=zh hm;have HC:=zh hc;have HG:=zh hg;clear hm hc hg;refine hQ _ _ _ (fun a' ha=>?_);refine⟨ha,?_⟩;rw [HT.out];exact aj.after (aj.after (aj.ended HM.out HC.out HG.out (ae.refl _ _) ⟨older,hol,rfl⟩) dW.out) aC.out
 | ok v s'=>
  rw [hr] at bS;have ht3 : tgt=ib (s'.vs mm n) v s':=by rw [ht2,hr];rfl
  clear hr ht2 ho;refine bS.out.mono ?_;rintro e w1 ⟨aP,hm,hc,rfl,hg⟩;have HM:=zh hm;have HC:=zh hc;have HG:=zh hg;have hdn:=hg.dyn mm n;rw [fC] at hdn;simp only at hdn;rw [hdn] at ht3;have HT:=zh (show tgt = .stop 3 s' from ht3);have HI:=zh (Gr v w1);clear hm hc hg hdn ht3 hS;go_wp2_with fail;refine⟨HC.out,?_⟩;have hS:=HC.out
  repeat ((with_reducible show dX _ _ _ _ _ _ _ _ _);(first|refine iO ?_|refine iZ rfl ?_|refine ja rfl rfl (by kernel_rfl) (fun _ _=>?_)|refine jb rfl rfl rfl (by first|exact Z1.out|exact Z2.out|exact Z3.out) (by assumption) (fun _ _=>?_));go_wp2_with fail)
  refine mg rfl rfl (fun K Q hK hQ=>?_);go_wp2_with fail;refine HI.out.mono ?_;rintro _ _ ⟨⟨older,hol,rfl⟩,hw⟩;have hw:=hw.symm;subst hw;refine hQ _ _ _ (fun a' ha=>?_);refine⟨ha,?_⟩;rw [HT.out];exact aj.after (aj.after (aj.ended HM.out HC.out HG.out (ae.refl _ _) ⟨older,hol,rfl⟩) dW.out) aC.out
end Go.Proofs.YtechofppmnnomaaGreatDoor
namespace Go.Mq.Run
open Go Go.RowKit Go.Mq Go.Mq.Tree
theorem Going.aside {w w':World} {L:Lay} {d:Nat} {s:St} {ov:Value} {Z:List Nat} (h:Going w L d s ov) (hc:ae Z w w') (hZ : ∀ x∈Z,x∉aJ L ov∧¬ L.Fix x):Going w' L d s ov:=
 ⟨h.lay,h.stat.kept hc (fun x hx=>(hZ x hx).2),h.run.kept hc (fun hm=>(hZ _ hm).1 List.mem_cons_self),h.dyn.kept hc (fun q n b k hd hm=>(hZ b hm).1 (List.mem_cons_of_mem _ (List.mem_append_right _ (h.lay.arr hd).1))),fun hb=>by
  obtain⟨cs,f,hh⟩:=h.oN hb;exact⟨cs,f,by rw [hc.block _ (Array.getElem?_eq_some_iff.1 hh).1 (fun hm=>(hZ _ hm).1 (List.mem_cons_of_mem _ (List.mem_append_right _ hb)))];exact hh⟩,cK h.out hc (fun g hg hm=>(hZ g hm).1 (List.mem_cons_of_mem _ (List.mem_append_left _ hg))),h.from_,h.few,h.deep,h.most⟩
end Go.Mq.Run
namespace Go.Proofs.YtechofppmnnomaaGreatDoor
open Go Go.RowKit Go.Mq Go.Mq.Tree Go.Mq.Sym Go.Mq.Check Go.Mq.Run
set_option maxRecDepth 100000
set_option maxHeartbeats 2000000
theorem Z7 (x:aX) (n:List UInt8) (pos:Int) (a1:Option Addr) (k1:Nat) (a2:Option Addr) (n2 k2:Nat) (a3:Option Addr) (n3 k3:Nat) (be b0:Nat) (c0 c1 c2 c3 c5 c6 c7 c8:Value) (w:World) (hx : w.cell? ⟨b0,0,none⟩=some (ptr be)) (hb:ag w be #[c0,c1,c2,c3,str n,c5,c6,c7,c8] 192) :
  Calls Tryz.prog 140 #[.agg #[str x.name,.int .i64 pos,.bool x.seen,.slice a1 x.params.length k1,.slice a2 n2 k2,.slice a3 n3 k3],ptr b0] w (fun e w'=>e = .returned (.bool (x.name == n))∧ae [] w w'):=by
 have hx':=((ae.refl [] w).alloc (.cells #[str x.name,.int .i64 pos,.bool x.seen,.slice a1 x.params.length k1,.slice a2 n2 k2,.slice a3 n3 k3] 72)).aF hx (by simp);have d4:=((ae.refl [] w).alloc (.cells #[str x.name,.int .i64 pos,.bool x.seen,.slice a1 x.params.length k1,.slice a2 n2 k2,.slice a3 n3 k3] 72)).aF (hb.cell 4 _ rfl) (by simp);have n0 : b0≠w.heap.size:=by have:=lt_of_cell hx;simp at this;omega
 have n1 : be≠w.heap.size:=by have:=hb.lt;omega
 have z:=ag.new w #[str x.name,.int .i64 pos,.bool x.seen,.slice a1 x.params.length k1,.slice a2 n2 k2,.slice a3 n3 k3] 72;have z0:=z.cell 0 _ rfl;clear hx hb z
 go_enter Tryz.func140,Tryz.ntmps140
 go_wp2_with fail
 go_region
 all_goals (try go_wp2_with fail)
 all_goals go_ret
 all_goals exact⟨rfl,((ae.refl _ _).alloc _).drew⟩
theorem Qs (l:List aX) (hl : l.length≤1000) (n:List UInt8) (be b0:Nat) (c0 c1 c2 c3 c5 c6 c7 c8:Value) (F:Nat→Prop) (v:Value) (w:World) (h:rO w F l v) (hx : w.cell? ⟨b0,0,none⟩=some (ptr be)) (hb:ag w be #[c0,c1,c2,c3,str n,c5,c6,c7,c8] 192) :
  Calls Tryz.prog 57 #[v,.func (.func 140) #[] #[ptr b0]] w (fun e w'=>eQ l (fun g=>g.name == n) e∧ae [] w w'):=by
 have kJ:=zh h;obtain⟨a,c,cs,rfl,hac,hrow,hps⟩:=h;have HX:=zh hx;have HB:=zh hb;clear hrow hx hb hps
 go_enter Tryz.func57,Tryz.ntmps57
 go_wp2_with fail
 go_loopw [5,8] (fun _ i wr=>∃ k:Nat,i = .int .i64 k∧k≤l.length∧ae [] w wr ∧ ∀ (i:Nat) (x:aX),i < k→l[i]?=some x→(x.name == n)=false) (fun _ i _=>l.length - (intOf i).toNat)
 case atStart=>exact⟨0,rfl,Nat.zero_le _,ae.refl _ _,fun i x hi=>by omega⟩
 case round=>
  obtain⟨k,rfl,hk,hc,hno⟩:=hrel;have eu:=zh hno;have HC:=zh hc;clear hno hc;by_cases hlt : k < l.length
  ·obtain⟨s,hs⟩ : ∃ s,l[k]?=some s:=⟨l[k],List.getElem?_eq_getElem hlt⟩
   obtain⟨bb,off,cc,pos,a1,k1,a2,n2,k2,a3,n3,k3,hv,_,d0,d1,d2,d3,d4,d5⟩:=Gd (kJ.out.kept HC.out (by simp)) hs;simp only [Value.slice.injEq,true_and] at hv;obtain⟨rfl,rfl⟩:=hv;have HS:=zh hs;have HI:=zh (Z7 s n pos a1 k1 a2 n2 k2 a3 n3 k3 be b0 c0 c1 c2 c3 c5 c6 c7 c8 wr (HC.out.aF HX.out (by simp)) (HB.out.kept HC.out (by simp)));clear hs;cases hq : (s.name == n) with
   | true=>
    rw [hq] at HI;have HR:=zh (show l.find? (fun g=>g.name == n)=some s from qO HS.out hq eu.out);clear hq;go_wp2_with fail;refine HI.out.mono ?_;rintro _ w2 ⟨rfl,hq⟩;have HQ:=zh (HC.out.then hq);clear hq;go_wp2_with fail;go_ret
    refine⟨?_,HQ.out⟩;rw [eQ,HR.out];exact⟨k,HS.out,rfl⟩
   | false=>
    rw [hq] at HI;have HN:=zh hq;clear hq;go_wp2_with fail;refine HI.out.mono ?_;rintro _ w2 ⟨rfl,hq⟩;have HQ:=zh (HC.out.then hq);clear hq;go_wp2_with fail;refine⟨⟨k + 1,by go_num,by omega,HQ.out,fun i x hi hx=>?_⟩,by simp [intOf];omega⟩;by_cases he : i < k
    ·exact eu.out i x he hx
    ·have : i=k:=by omega
     subst this;rw [HS.out] at hx;cases hx
     exact HN.out
  ·have HR:=zh (show l.find? (fun g=>g.name == n)=none from qP fun i x hx=>eu.out i x (by have:=(List.getElem?_eq_some_iff.1 hx).1;omega) hx)
   go_wp2_with fail;go_ret
   exact⟨by rw [eQ,HR.out] <;> rfl,HC.out⟩
end Go.Proofs.YtechofppmnnomaaGreatDoor
namespace Go.Mq.Run
open Go Go.RowKit Go.Mq Go.Mq.Tree
open Go.Mq.Check (fG bZ bK dx)
theorem Qt (M:Ms) (g d:Nat) (q:Nm) (fr:Fr) (p:Nat) (m n:Nm) (l:E) (s:St) : (fns M (g + 1)).e d q fr (.app p m n l) s=match M (bV q m) with
  | none=>.stuck
  | some mo=>match mo.procs.find? fun p=>p.name == n with
   | none=>.stuck
   | some p=>((fns M g).es d q fr l s).bind fun args s=>(fns M g).c d (bV q m) p args s:=rfl
theorem Qu {M:Ms} {g:Nat} {d:Nat} {q:Nm} {fr:Fr} {x r:E} {s:St} {zs:List Int} {o:O (List Int)} (h : o=((fns M g).es d q fr (.cons x r) s).bind fun l s=>.ok (zs ++ l) s) (ho : o ≠ .stuck) :
  ∃ g',g=g' + 1∧o=((fns M g').e d q fr x s).bind fun n s=>((fns M g').es d q fr r s).bind fun l s=>.ok ((zs ++ [n]) ++ l) s:=by
 cases g with
 | zero=>exact absurd h ho
 | succ g'=>
  refine⟨g',rfl,?_⟩;rw [h]
  show (((fns M g').e d q fr x s).bind fun n s=>((fns M g').es d q fr r s).bind fun l s=>.ok (n :: l) s).bind _=_
  cases (fns M g').e d q fr x s with
  | stuck=>rfl
  | stop w s=>rfl
  | ok n s1=>
   show (((fns M g').es d q fr r s1).bind fun l s=>.ok (n :: l) s).bind _=((fns M g').es d q fr r s1).bind _
   cases (fns M g').es d q fr r s1 with
   | stuck=>rfl
   | stop w s=>rfl
   | ok l s2=>simp [O.bind]
theorem Qv {M:Ms} {g:Nat} {d:Nat} {q:Nm} {fr:Fr} {r:E} {s:St} {zs:List Int} {o:O (List Int)} {w:World} {F:Nat→Prop} (hr:aY w F r []) (h : o=((fns M g).es d q fr r s).bind fun l s=>.ok (zs ++ l) s) (ho : o ≠ .stuck) : o = .ok zs s:=by
 cases r with
 | nil=>
  cases g with
  | zero=>exact absurd h ho
  | succ g'=>rw [h];show O.ok (zs ++ []) s=_;rw [List.append_nil]
 | cons x r=>obtain⟨u,vs,he,_⟩:=hr;cases he
 | num p n=>obtain⟨b,he,_⟩:=hr;cases he
 | var p m n=>obtain⟨b,he,_⟩:=hr;cases he
 | item p m n i=>obtain⟨b,u,he,_⟩:=hr;cases he
 | un p op x=>obtain⟨b,u,he,_⟩:=hr;cases he
 | bin p op x y=>obtain⟨b,u,v,he,_⟩:=hr;cases he
 | app p m n l=>obtain⟨b,a,c,vs,he,_⟩:=hr;cases he
theorem Qw {w:World} {F:Nat→Prop} {r:E} {u v:Value} {vs:List Value} {M:Ms} {g:Nat} {d:Nat} {q:Nm} {fr:Fr} {s:St} (hr:aY w F r (u :: vs)) (h : (fns M g).es d q fr r s ≠ .stuck) : ∃ x r',r = .cons x r'∧aY w F x [u]∧aY w F r' vs:=by
 cases r with
 | cons x r'=>
  obtain⟨u',vs',he,h1,h2⟩:=hr;cases he
  exact⟨x,r',rfl,h1,h2⟩
 | nil=>cases hr
 | num p n=>cases g <;> exact absurd rfl h
 | var p m n=>cases g <;> exact absurd rfl h
 | item p m n i=>cases g <;> exact absurd rfl h
 | un p op x=>cases g <;> exact absurd rfl h
 | bin p op x y=>cases g <;> exact absurd rfl h
 | app p m n l=>cases g <;> exact absurd rfl h
theorem Qx {w:World} {F:Nat→Prop} {l:E} : ∀ {vs:List Value},aY w F l vs→vs.length≤dx l + 1:=by
 induction l with
 | cons x r _ ih=>rintro vs ⟨u,vs',rfl,_,h⟩;have:=ih h;simp [dx];omega
 | nil=>intro vs h;rw [show vs=[] from h];simp
 | num p n=>rintro vs ⟨b,rfl,_⟩;simp
 | var p m n=>rintro vs ⟨b,rfl,_⟩;simp
 | item p m n i=>rintro vs ⟨b,u,rfl,_⟩;simp
 | un p op x=>rintro vs ⟨b,u,rfl,_⟩;simp
 | bin p op x y=>rintro vs ⟨b,u,v,rfl,_⟩;simp
 | app p m n l=>rintro vs ⟨b,a,c,vs',rfl,_⟩;simp
theorem Dj {w:World} {F:Nat→Prop} {a:Option Addr} {vs:List Value} {k:Nat} (h:Row w F a vs) (hk : k < vs.length) : ∃ bb off,a=some ⟨bb,off,none⟩∧w.cell? ⟨bb,off + k,none⟩=some vs[k]:=by
 obtain⟨bb,off,rfl,hc⟩:=h.at_ (by omega);exact⟨bb,off,rfl,hc k _ (List.getElem?_eq_getElem hk)⟩
end Go.Mq.Run
namespace Go.Proofs.YtechofppmnnomaaGreatDoor
open Go Go.RowKit Go.Mq Go.Mq.Tree Go.Mq.Run
open Go.Mq.Check (fG bZ bK dx eQ)
open Go.Mq.Sym (uQ)
set_option maxRecDepth 100000
set_option maxHeartbeats 4000000
theorem AZ : (Tryz.prog.info? bN).map (fun i=>(i.zero,i.size,i.bytes))=some (some (num 0),1,8):=by kernel_rfl
theorem Z8 (g:Nat) (hE : ∀ g',g'≤g→ji g') (hC:yM g) {L:Lay} {d:Nat} {q:Nm} {fr:Fr} {p:Nat} {s:St} {w:World} {ov:Value} {ob:Option Nat} {u:Value} {m:Mod} {n:Nm} {l:E} {mq:Mod} {pr:aX} (h:Going w L d s ov) (hq:L.M q=some m) (hfr:eG w ob fr) (hx:aY w L.Fix (.app p [] n l) [u]) (hfe : dx l≤1000∧bK l) (eB:L.M q=some mq) (hfind : mq.procs.find? (fun p=>p.name == n)=some pr) (ho : (fns L.M (g + 1)).e d q fr (.app p [] n l) s ≠ .stuck) :
  Calls Tryz.prog 117 #[ptr L.br,ptr (L.pb q),.map ob,u] w (aj w L d ov [] (fun _ n e=>e = .returned (num n)) ((fns L.M (g + 1)).e d q fr (.app p [] n l) s)):=by
 obtain⟨b,ax,cx,vs,he,hF,hb,Gz,hrow,hxl⟩:=hx;cases he
 obtain⟨wA,ay⟩ : ∃ x,w.alloc (.cells #[ptr b] 166)=x:=⟨_,rfl⟩
 have hc0:ae [] w wA:=by rw [← ay];exact(ae.refl _ _).alloc _
 have hb0:=hb.kept hc0 (by simp);have hbx:ag wA w.heap.size #[ptr b] 166:=by rw [← ay];exact ag.new w #[ptr b] 166
 have b0:=hbx.cell 0 _ rfl;have HX:=zh hb0;have gZ:=zh hbx;have HF:=zh hF;have d0:=hb0.cell 0 _ rfl;have d3:=hb0.cell 3 _ rfl;have d8:=hb0.cell 8 _ rfl;have aC:=zh hc0;have H:=zh (h.kept hc0);have di:=zh (hfr.kept hc0 (by simp));obtain⟨tgt,ht⟩ : ∃ o,o=(fns L.M (g + 1)).e d q fr (.app p [] n l) s:=⟨_,rfl⟩
 have ht2 : tgt=((fns L.M g).es d q fr l s).bind (fun args s=>(fns L.M g).c d q pr args s):=by
  have hw : bV q []=q:=rfl;rw [ht,Qt];rw [hw,eB];simp only [hfind]
 rw [← ht] at ho ⊢;obtain⟨oe,hoe⟩ : ∃ o,o=(fns L.M g).es d q fr l s:=⟨_,rfl⟩
 rw [← hoe] at ht2;have hone : oe ≠ .stuck:=fun hs=>ho (by rw [ht2,hs];rfl)
 have Dk : oe=((fns L.M g).es d q fr l s).bind fun l s=>.ok ([] ++ l) s:=by
  rw [hoe];cases (fns L.M g).es d q fr l s <;> rfl
 have hlen : vs.length≤1001:=by have:=Qx hxl;have:=hfe.1;omega
 have Kn:=zh Dk;have nR:=zh hone;have HT2:=zh ht2;have iM:=zh hfe.2;have HQ:=zh hq;obtain⟨wB,fB⟩ : ∃ x,x=wA:=⟨_,rfl⟩
 have hcB:ae [] wA wB:=by rw [fB];exact ae.refl [] wA
 have jk:=zh hcB;have gD:=zh (H.out.kept hcB);have Dl:=zh (di.out.kept hcB (by simp));have HX0:=zh (hb0.kept hcB (by simp));have uT:=zh (hbx.kept hcB (by simp));have fH:=zh ((hrow.kept hc0 (by simp)).kept hcB (by simp));have Ko:=zh ((hxl.kept hc0 (by simp)).kept hcB (by simp));have q0:=uT.out.cell 0 _ rfl;have e0:=HX0.out.cell 0 _ rfl;have e8:=HX0.out.cell 8 _ rfl;have xm:=gD.out.run.lt;have A7:=zh xm;have Kq:=zh hfind;have y9:=zh eB;have mh:=zh hF;subst fB;clear h hb hb0 hc0 hfr hxl hbx ht hq hfe eB hcB hrow ht2 hoe Dk hone hfind xm;have pU : ∀ (fn:Fn) (first cap:Array Value) (w:World),(Instr.makeFunc fn first cap).run Tryz.prog w = .ok (.func fn first cap) w:=fun _ _ _ _=>rfl
 go_enter Tryz.func117,Tryz.ntmps117
 go_wp2_with fail;clear ay;have kY:=zh hlen;clear q0 e0 e8 b0 d0 d3 d8
 go_loopw [13,15,128] (fun av _ i wr=>∃ (k:Nat) (r:E) (zs:List Int) (s':St) (g':Nat) (aP:Value),i = .int .i64 k∧k≤vs.length∧zs.length=k∧aY wr L.Fix r (vs.drop k)∧bK r∧wr.ownsRow 0 bN 1 av zs.length (ints zs)∧From wB.heap.size av∧(∀ x∈blk av,x∉aJ L aP)∧Going wr L d s' aP∧dS wB ov aP∧ae (aJ L ov) wB wr∧g'≤g∧oe=((fns L.M g').es d q fr r s').bind fun l s=>.ok (zs ++ l) s) (fun _ _ i _=>vs.length - (intOf i).toNat)
 case atStart=>exact⟨0,l,[],s,g,ov,rfl,Nat.zero_le _,rfl,Ko.out,iM.out,World.ownsRow_nil _ _ _ _,From.nil _,(fun x hx=>by cases hx),gD.out,dS.refl _ _,ae.refl _ _,Nat.le_refl _,Kn.out⟩
 case round=>
  obtain⟨k,r,zs,s',g',aP,rfl,hk,Dm,hrl,hrf,hown,tY,hnot,hg,hm,hc,hgg,hoe⟩:=hrel;obtain⟨aa,ca,rfl⟩:=gq hown;have HOWN:=zh hown;have za:=zh tY;have zb:=zh hnot;have HG:=zh hg;have HM:=zh hm;have HC:=zh hc;have hlen:=kY.out;have uU:=zh Dm;clear Dm;have qR : w.heap.size∉aJ L ov:=gD.out.gT uT.out (by decide) (by decide);have hnx : b∉aJ L ov:=fun hm=>gD.out.dz b hm mh.out
  have hs0:=hc.size;have A8:=zh hs0;by_cases hlt : k < vs.length
  ·obtain⟨bb,off,rfl,hcell⟩:=Dj (fH.out.kept hc (by simpa using gD.out.dz)) hlt
   rw [List.drop_eq_getElem_cons hlt] at hrl;obtain⟨x,r',rfl,hx1,hr1⟩:=Qw (v:=aI) hrl (fun hs=>nR.out (by rw [hoe,hs];rfl));obtain⟨uk,Dn⟩ : ∃ z,z=vs[k]:=⟨_,rfl⟩
   rw [← Dn] at hx1 hcell;obtain⟨g2,rfl,uV⟩:=Qu hoe nR.out;have HR1:=zh hr1;have Kr:=zh hrf.2;have ze:=zh uV;have q0:=(uT.out.kept hc qR).cell 0 _ rfl;have bS:=zh (hE g2 (by omega) hg HQ.out (Dl.out.kept hc (Dl.out.iK gD.out)) hx1 hrf.1 (fun hs=>nR.out (by rw [uV,hs];rfl)));clear hown tY hnot hg hm hc hoe hx1 hr1 hrf Dn qR hnx;cases hr : (fns L.M g2).e d q fr x s' with
   | stuck=>exact absurd (by rw [ze.out,hr];rfl) nR.out
   | stop way s2=>
    rw [hr] at bS;have HT:=zh (show tgt = .stop way s2 by rw [HT2.out,ze.out,hr];rfl);clear hr uV;go_wp2_with fail;refine bS.out.mono ?_;rintro e w1 ⟨bT,hm,hc,⟨older,hol,rfl⟩,d',hg⟩;have zf:=zh hm;have cB:=zh hc;have dE:=zh hg;clear hm hc hg;go_wp2_with fail;refine⟨rfl,?_⟩;rw [HT.out];exact aj.after (aj.after (aj.then HM.out HC.out (aj.ended zf.out cB.out dE.out (ae.refl _ _) ⟨older,hol,rfl⟩)) jk.out) aC.out
   | ok v s2=>
    rw [hr] at bS;have Kt:=zh (show oe=((fns L.M g2).es d q fr r' s2).bind fun l s=>.ok ((zs ++ [v]) ++ l) s by rw [ze.out,hr];rfl);clear hr uV;go_wp2_with fail;refine bS.out.mono ?_;rintro e w1 ⟨bT,hm,hc,rfl,hg⟩;have zf:=zh hm;have cB:=zh hc;have dE:=zh hg;have hs1:=hc.size;have Ku:=zh (cK HOWN.out hc (fun y hy=>by simpa using zb.out y hy));have Dp:=zh (fun y (hy : y∈blk (.slice aa zs.length ca))=>lN (L:=L) hm (qC HOWN.out y hy) (zb.out y hy));have HR2:=zh (HR1.out.kept hc (by simpa using HG.out.dz));clear hm hc hg;have rX:=zh (cK Ku.out ((ae.refl [] w1).alloc (.cells #[num v] bN)) (by simp));go_wp2_with (at_builtin;go_must (refine pO rfl _ _ 41 rfl bN _ 1 8 AZ Tryz.underlying41 rfl (by decide) _ zs.length (ints zs) rfl rX.out ⟨w1.heap.size,0,none⟩ 1 1 [num v] rfl rfl (Aj _ _ _) (by simp [Value.oneCell']) ?_ ?_ ?_))
    ·have:=uU.out;omega
    ·have:=uU.out;unfold maxLen;omega
    ·intro v' w' hown' hch' cz
     have iV:=zh hown';have qI:=zh hch';have iP:=zh cz;obtain⟨va,vc,rfl⟩:=gq hown';clear hown' hch' cz;go_wp2_with fail;have aO:ae [] w1 (w1.alloc (.cells #[num v] bN)):=(ae.refl [] w1).alloc _;have hnz : ∀ y∈blk (.slice aa zs.length ca),y∉aJ L bT∧¬ L.Fix y:=fun y hy=>⟨Dp.out y hy,fun hf=>by have:=gD.out.lay.fix hf;have:=za.out y hy;have:=A7.out;omega⟩
     refine⟨⟨k + 1,r',zs ++ [v],s2,g2,bT,by go_num,by omega,by rw [List.length_append,uU.out];rfl,?_,Kr.out,by rw [List.length_append,ints,List.map_append];exact iV.out,fun y hy=>?_,fun y hy=>?_,(dE.out.kept aO).aside qI.out hnz,HM.out.trans HC.out zf.out,?_,by omega,Kt.out⟩,by simp [intOf];omega⟩
     ·exact(HR2.out.kept aO (by simp)).kept qI.out (fun y hy=>(hnz y hy).2)
     ·rcases iP.out y hy with h|h
      ·exact za.out y h
      ·have:=A8.out;simp at h;omega
     ·rcases iP.out y hy with h|h
      ·exact Dp.out y h
      ·intro hmm;have:=dE.out.lt y hmm;simp at h;omega
     ·have h1:ae (aJ L ov) wB w1:=HC.out.trans cB.out (fun y hy=>F5 HC.out HM.out y (by simpa using hy))
      exact(h1.then aO.weak).trans qI.out (fun y hy=>.inr (by have:=za.out y hy;omega))
  ·have hkn : k=vs.length:=by omega
   rw [hkn,List.drop_length] at hrl;have Dq:=Qv hrl hoe nR.out;have ht3 : tgt=(fns L.M g).c d q pr zs s':=by rw [HT2.out,Dq];rfl
   obtain⟨c0,c1,c2,c3,c4,bm,hpb,iD,_⟩:=tX hg y9.out;obtain⟨_,bp,bQ,_,_,_,_,hall⟩:=hg.stat;have jc:=hall q;rw [y9.out] at jc;obtain⟨_,_,dJ,ai,ci,av,cv,ap,cp,ab,cb,bv,es,h3,h4,_⟩:=jc;have hb3:=h3.cell 3 _ rfl;obtain⟨vi,vv,vp,vb,nS,_,_,hpr,_⟩:=h4;cases nS
   have q0:=(uT.out.kept hc qR).cell 0 _ rfl;have A9:=zh (Qs mq.procs dJ.procs n b w.heap.size (.int .i64 6) (.int .i64 p) (.int .i64 0) (str []) (str []) aI aI (.slice ax vs.length cx) L.Fix _ wr (uQ hpr) q0 (HX0.out.kept hc hnx));have kJ:=zh hpr;have HB3:=zh h3;have qa:=zh dJ;have HT3:=zh ht3;have hne : tgt ≠ .stuck:=ho;have cZ:=zh hne;clear hown tY hnot hg hm hc hoe hrl Dq ht3 hpb iD hall h3 hpr dJ qR hnx hne;go_wp2_with fail;refine A9.out.mono ?_;rintro e w1 ⟨hat,hc1⟩;rw [eQ,Kq.out] at hat;obtain⟨kk,hkk,rfl⟩:=hat;have cB:=zh hc1;have dE:=zh (HG.out.kept hc1);have Dr:=kJ.out.kept hc1 (by simp);obtain⟨bb,off,cc,Kv,Kw,Ky,hsl,hcc,d0,d1,d2,d3,d4,d5,hn1,hn2,jL⟩:=Gq Dr hkk;simp only [Value.slice.injEq,true_and] at hsl;obtain⟨rfl,rfl⟩:=hsl;have hb3:=(HB3.out.kept hc1 (by simp)).cell 3 _ rfl;have hkl:=(List.getElem?_eq_some_iff.1 hkk).1;have hmem : pr∈mq.procs:=List.mem_of_getElem? hkk;have hpl:=qa.out.procs;obtain⟨hb1,hb2⟩:=qa.out.bodies pr hmem;obtain⟨hp1,hp2⟩:=qa.out.params pr hmem;have Dt:Row w1 (fun y=>y∉aJ L aP) aa (ints zs):=by
    obtain⟨a',c',he,_,hr⟩:=Row.jU (F:=fun y=>y∉aJ L aP) HOWN.out zb.out;cases he
    exact hr.kept hc1 (by simp)
   have gK:=zh (hC dE.out y9.out hn1 hn2 jL hb1 hb2 (by omega) (by omega) (c:=ca) Dt (by have:=kY.out;have:=uU.out;omega) (fun hs=>cZ.out (by rw [HT3.out];exact hs)));clear hc1 Dr hkk hn1 hn2 jL Dt hb1 hb2 hmem hpl;go_wp2_with fail;refine gK.out.mono ?_;intro e w2 he;rw [← HT3.out] at he;have jl:=aj.after (aj.after (aj.then HM.out HC.out (aj.after he cB.out)) jk.out) aC.out;have aR:=zh jl;obtain⟨_,_,_,hres⟩:=jl;clear he;cases tgt with
   | stuck=>exact absurd rfl cZ.out
   | stop way s9=>
    obtain⟨⟨older,hol,rfl⟩,_⟩:=hres;clear hol;go_wp2_with fail;exact⟨rfl,aR.out⟩
   | ok v s9=>
    obtain⟨rfl,_⟩:=hres;go_wp2_with fail;go_ret
    exact aR.out
theorem Z9 (g:Nat) (hE : ∀ g',g'≤g→ji g') (hC:yM g) {L:Lay} {d:Nat} {q:Nm} {fr:Fr} {p:Nat} {s:St} {w:World} {ov:Value} {ob:Option Nat} {u:Value} {m:Mod} {mm:Nm} {n:Nm} {l:E} {mq:Mod} {pr:aX} (h:Going w L d s ov) (hq:L.M q=some m) (hfr:eG w ob fr) (hx:aY w L.Fix (.app p mm n l) [u]) (hfe : dx l≤1000∧bK l) (hmm : mm≠[]) (eB:L.M mm=some mq) (hfind : mq.procs.find? (fun p=>p.name == n)=some pr) (ho : (fns L.M (g + 1)).e d q fr (.app p mm n l) s ≠ .stuck) :
  Calls Tryz.prog 117 #[ptr L.br,ptr (L.pb q),.map ob,u] w (aj w L d ov [] (fun _ n e=>e = .returned (num n)) ((fns L.M (g + 1)).e d q fr (.app p mm n l) s)):=by
 obtain⟨b,ax,cx,vs,he,hF,hb,Gz,hrow,hxl⟩:=hx;cases he
 obtain⟨wA,ay⟩ : ∃ x,w.alloc (.cells #[ptr b] 166)=x:=⟨_,rfl⟩
 have hc0:ae [] w wA:=by rw [← ay];exact(ae.refl _ _).alloc _
 have hb0:=hb.kept hc0 (by simp);have hbx:ag wA w.heap.size #[ptr b] 166:=by rw [← ay];exact ag.new w #[ptr b] 166
 have b0:=hbx.cell 0 _ rfl;have HX:=zh hb0;have gZ:=zh hbx;have HF:=zh hF;have d0:=hb0.cell 0 _ rfl;have d3:=hb0.cell 3 _ rfl;have d8:=hb0.cell 8 _ rfl;have aC:=zh hc0;have H:=zh (h.kept hc0);have di:=zh (hfr.kept hc0 (by simp));obtain⟨tgt,ht⟩ : ∃ o,o=(fns L.M (g + 1)).e d q fr (.app p mm n l) s:=⟨_,rfl⟩
 have ht2 : tgt=((fns L.M g).es d q fr l s).bind (fun args s=>(fns L.M g).c d mm pr args s):=by
  have hw : bV q mm=mm:=by rw [bV,if_neg hmm]
  rw [ht,Qt];rw [hw,eB];simp only [hfind]
 rw [← ht] at ho ⊢;obtain⟨oe,hoe⟩ : ∃ o,o=(fns L.M g).es d q fr l s:=⟨_,rfl⟩
 rw [← hoe] at ht2;have hone : oe ≠ .stuck:=fun hs=>ho (by rw [ht2,hs];rfl)
 have Dk : oe=((fns L.M g).es d q fr l s).bind fun l s=>.ok ([] ++ l) s:=by
  rw [hoe];cases (fns L.M g).es d q fr l s <;> rfl
 have hlen : vs.length≤1001:=by have:=Qx hxl;have:=hfe.1;omega
 have Kn:=zh Dk;have nR:=zh hone;have HT2:=zh ht2;have iM:=zh hfe.2;have HQ:=zh hq;obtain⟨wB,fB⟩ : ∃ x,x=wA.drew:=⟨_,rfl⟩
 have hcB:ae [] wA wB:=by rw [fB];exact(ae.refl [] wA).drew
 have jk:=zh hcB;have gD:=zh (H.out.kept hcB);have Dl:=zh (di.out.kept hcB (by simp));have HX0:=zh (hb0.kept hcB (by simp));have uT:=zh (hbx.kept hcB (by simp));have fH:=zh ((hrow.kept hc0 (by simp)).kept hcB (by simp));have Ko:=zh ((hxl.kept hc0 (by simp)).kept hcB (by simp));have q0:=uT.out.cell 0 _ rfl;have e0:=HX0.out.cell 0 _ rfl;have e8:=HX0.out.cell 8 _ rfl;have xm:=gD.out.run.lt;have A7:=zh xm;have Kq:=zh hfind;have y9:=zh eB;have mh:=zh hF;have r0:=H.out.run.cell 0 _ rfl;obtain⟨bp,Kl,hwb,hwf,jC⟩:=Gu H.out;have w0:=hwb.cell 0 _ rfl;have hl0:=jC wA.drew [] (ae.refl _ _).drew (by simp) mm;rw [eB] at hl0;simp only at hl0;have hm1 : (mm == [])=false:=by simpa using hmm
 have hm2 : (mm != [])=true:=by simpa using hmm
 clear jC hwb hwf hmm;clear h hb hb0 hc0 hfr hxl hbx ht hq hfe eB hcB hrow ht2 hoe Dk hone hfind xm;have pU : ∀ (fn:Fn) (first cap:Array Value) (w:World),(Instr.makeFunc fn first cap).run Tryz.prog w = .ok (.func fn first cap) w:=fun _ _ _ _=>rfl
 go_enter Tryz.func117,Tryz.ntmps117
 go_wp2_with fail
 go_region
 all_goals (try go_wp2_with fail)
 rw [← fB];clear fB hm1 hm2 r0 w0 hl0;clear ay;have kY:=zh hlen;clear q0 e0 e8 b0 d0 d3 d8
 go_loopw [13,15,128] (fun av _ i wr=>∃ (k:Nat) (r:E) (zs:List Int) (s':St) (g':Nat) (aP:Value),i = .int .i64 k∧k≤vs.length∧zs.length=k∧aY wr L.Fix r (vs.drop k)∧bK r∧wr.ownsRow 0 bN 1 av zs.length (ints zs)∧From wB.heap.size av∧(∀ x∈blk av,x∉aJ L aP)∧Going wr L d s' aP∧dS wB ov aP∧ae (aJ L ov) wB wr∧g'≤g∧oe=((fns L.M g').es d q fr r s').bind fun l s=>.ok (zs ++ l) s) (fun _ _ i _=>vs.length - (intOf i).toNat)
 case atStart=>exact⟨0,l,[],s,g,ov,rfl,Nat.zero_le _,rfl,Ko.out,iM.out,World.ownsRow_nil _ _ _ _,From.nil _,(fun x hx=>by cases hx),gD.out,dS.refl _ _,ae.refl _ _,Nat.le_refl _,Kn.out⟩
 case round=>
  obtain⟨k,r,zs,s',g',aP,rfl,hk,Dm,hrl,hrf,hown,tY,hnot,hg,hm,hc,hgg,hoe⟩:=hrel;obtain⟨aa,ca,rfl⟩:=gq hown;have HOWN:=zh hown;have za:=zh tY;have zb:=zh hnot;have HG:=zh hg;have HM:=zh hm;have HC:=zh hc;have hlen:=kY.out;have uU:=zh Dm;clear Dm;have qR : w.heap.size∉aJ L ov:=gD.out.gT uT.out (by decide) (by decide);have hnx : b∉aJ L ov:=fun hm=>gD.out.dz b hm mh.out
  have hs0:=hc.size;have A8:=zh hs0;by_cases hlt : k < vs.length
  ·obtain⟨bb,off,rfl,hcell⟩:=Dj (fH.out.kept hc (by simpa using gD.out.dz)) hlt
   rw [List.drop_eq_getElem_cons hlt] at hrl;obtain⟨x,r',rfl,hx1,hr1⟩:=Qw (v:=aI) hrl (fun hs=>nR.out (by rw [hoe,hs];rfl));obtain⟨uk,Dn⟩ : ∃ z,z=vs[k]:=⟨_,rfl⟩
   rw [← Dn] at hx1 hcell;obtain⟨g2,rfl,uV⟩:=Qu hoe nR.out;have HR1:=zh hr1;have Kr:=zh hrf.2;have ze:=zh uV;have q0:=(uT.out.kept hc qR).cell 0 _ rfl;have bS:=zh (hE g2 (by omega) hg HQ.out (Dl.out.kept hc (Dl.out.iK gD.out)) hx1 hrf.1 (fun hs=>nR.out (by rw [uV,hs];rfl)));clear hown tY hnot hg hm hc hoe hx1 hr1 hrf Dn qR hnx;cases hr : (fns L.M g2).e d q fr x s' with
   | stuck=>exact absurd (by rw [ze.out,hr];rfl) nR.out
   | stop way s2=>
    rw [hr] at bS;have HT:=zh (show tgt = .stop way s2 by rw [HT2.out,ze.out,hr];rfl);clear hr uV;go_wp2_with fail;refine bS.out.mono ?_;rintro e w1 ⟨bT,hm,hc,⟨older,hol,rfl⟩,d',hg⟩;have zf:=zh hm;have cB:=zh hc;have dE:=zh hg;clear hm hc hg;go_wp2_with fail;refine⟨rfl,?_⟩;rw [HT.out];exact aj.after (aj.after (aj.then HM.out HC.out (aj.ended zf.out cB.out dE.out (ae.refl _ _) ⟨older,hol,rfl⟩)) jk.out) aC.out
   | ok v s2=>
    rw [hr] at bS;have Kt:=zh (show oe=((fns L.M g2).es d q fr r' s2).bind fun l s=>.ok ((zs ++ [v]) ++ l) s by rw [ze.out,hr];rfl);clear hr uV;go_wp2_with fail;refine bS.out.mono ?_;rintro e w1 ⟨bT,hm,hc,rfl,hg⟩;have zf:=zh hm;have cB:=zh hc;have dE:=zh hg;have hs1:=hc.size;have Ku:=zh (cK HOWN.out hc (fun y hy=>by simpa using zb.out y hy));have Dp:=zh (fun y (hy : y∈blk (.slice aa zs.length ca))=>lN (L:=L) hm (qC HOWN.out y hy) (zb.out y hy));have HR2:=zh (HR1.out.kept hc (by simpa using HG.out.dz));clear hm hc hg;have rX:=zh (cK Ku.out ((ae.refl [] w1).alloc (.cells #[num v] bN)) (by simp));go_wp2_with (at_builtin;go_must (refine pO rfl _ _ 41 rfl bN _ 1 8 AZ Tryz.underlying41 rfl (by decide) _ zs.length (ints zs) rfl rX.out ⟨w1.heap.size,0,none⟩ 1 1 [num v] rfl rfl (Aj _ _ _) (by simp [Value.oneCell']) ?_ ?_ ?_))
    ·have:=uU.out;omega
    ·have:=uU.out;unfold maxLen;omega
    ·intro v' w' hown' hch' cz
     have iV:=zh hown';have qI:=zh hch';have iP:=zh cz;obtain⟨va,vc,rfl⟩:=gq hown';clear hown' hch' cz;go_wp2_with fail;have aO:ae [] w1 (w1.alloc (.cells #[num v] bN)):=(ae.refl [] w1).alloc _;have hnz : ∀ y∈blk (.slice aa zs.length ca),y∉aJ L bT∧¬ L.Fix y:=fun y hy=>⟨Dp.out y hy,fun hf=>by have:=gD.out.lay.fix hf;have:=za.out y hy;have:=A7.out;omega⟩
     refine⟨⟨k + 1,r',zs ++ [v],s2,g2,bT,by go_num,by omega,by rw [List.length_append,uU.out];rfl,?_,Kr.out,by rw [List.length_append,ints,List.map_append];exact iV.out,fun y hy=>?_,fun y hy=>?_,(dE.out.kept aO).aside qI.out hnz,HM.out.trans HC.out zf.out,?_,by omega,Kt.out⟩,by simp [intOf];omega⟩
     ·exact(HR2.out.kept aO (by simp)).kept qI.out (fun y hy=>(hnz y hy).2)
     ·rcases iP.out y hy with h|h
      ·exact za.out y h
      ·have:=A8.out;simp at h;omega
     ·rcases iP.out y hy with h|h
      ·exact Dp.out y h
      ·intro hmm;have:=dE.out.lt y hmm;simp at h;omega
     ·have h1:ae (aJ L ov) wB w1:=HC.out.trans cB.out (fun y hy=>F5 HC.out HM.out y (by simpa using hy))
      exact(h1.then aO.weak).trans qI.out (fun y hy=>.inr (by have:=za.out y hy;omega))
  ·have hkn : k=vs.length:=by omega
   rw [hkn,List.drop_length] at hrl;have Dq:=Qv hrl hoe nR.out;have ht3 : tgt=(fns L.M g).c d mm pr zs s':=by rw [HT2.out,Dq];rfl
   obtain⟨c0,c1,c2,c3,c4,bm,hpb,iD,_⟩:=tX hg y9.out;obtain⟨_,bp,bQ,_,_,_,_,hall⟩:=hg.stat;have jc:=hall mm;rw [y9.out] at jc;obtain⟨_,_,dJ,ai,ci,av,cv,ap,cp,ab,cb,bv,es,h3,h4,_⟩:=jc;have hb3:=h3.cell 3 _ rfl;obtain⟨vi,vv,vp,vb,nS,_,_,hpr,_⟩:=h4;cases nS
   have q0:=(uT.out.kept hc qR).cell 0 _ rfl;have A9:=zh (Qs mq.procs dJ.procs n b w.heap.size (.int .i64 6) (.int .i64 p) (.int .i64 0) (str mm) (str []) aI aI (.slice ax vs.length cx) L.Fix _ wr (uQ hpr) q0 (HX0.out.kept hc hnx));have kJ:=zh hpr;have HB3:=zh h3;have qa:=zh dJ;have HT3:=zh ht3;have hne : tgt ≠ .stuck:=ho;have cZ:=zh hne;clear hown tY hnot hg hm hc hoe hrl Dq ht3 hpb iD hall h3 hpr dJ qR hnx hne;go_wp2_with fail;refine A9.out.mono ?_;rintro e w1 ⟨hat,hc1⟩;rw [eQ,Kq.out] at hat;obtain⟨kk,hkk,rfl⟩:=hat;have cB:=zh hc1;have dE:=zh (HG.out.kept hc1);have Dr:=kJ.out.kept hc1 (by simp);obtain⟨bb,off,cc,Kv,Kw,Ky,hsl,hcc,d0,d1,d2,d3,d4,d5,hn1,hn2,jL⟩:=Gq Dr hkk;simp only [Value.slice.injEq,true_and] at hsl;obtain⟨rfl,rfl⟩:=hsl;have hb3:=(HB3.out.kept hc1 (by simp)).cell 3 _ rfl;have hkl:=(List.getElem?_eq_some_iff.1 hkk).1;have hmem : pr∈mq.procs:=List.mem_of_getElem? hkk;have hpl:=qa.out.procs;obtain⟨hb1,hb2⟩:=qa.out.bodies pr hmem;obtain⟨hp1,hp2⟩:=qa.out.params pr hmem;have Dt:Row w1 (fun y=>y∉aJ L aP) aa (ints zs):=by
    obtain⟨a',c',he,_,hr⟩:=Row.jU (F:=fun y=>y∉aJ L aP) HOWN.out zb.out;cases he
    exact hr.kept hc1 (by simp)
   have gK:=zh (hC dE.out y9.out hn1 hn2 jL hb1 hb2 (by omega) (by omega) (c:=ca) Dt (by have:=kY.out;have:=uU.out;omega) (fun hs=>cZ.out (by rw [HT3.out];exact hs)));clear hc1 Dr hkk hn1 hn2 jL Dt hb1 hb2 hmem hpl;go_wp2_with fail;refine gK.out.mono ?_;intro e w2 he;rw [← HT3.out] at he;have jl:=aj.after (aj.after (aj.then HM.out HC.out (aj.after he cB.out)) jk.out) aC.out;have aR:=zh jl;obtain⟨_,_,_,hres⟩:=jl;clear he;cases tgt with
   | stuck=>exact absurd rfl cZ.out
   | stop way s9=>
    obtain⟨⟨older,hol,rfl⟩,_⟩:=hres;clear hol;go_wp2_with fail;exact⟨rfl,aR.out⟩
   | ok v s9=>
    obtain⟨rfl,_⟩:=hres;go_wp2_with fail;go_ret
    exact aR.out
end Go.Proofs.YtechofppmnnomaaGreatDoor
namespace Go.Proofs.YtechofppmnnomaaGreatDoor
open Go Go.RowKit Go.Mq Go.Mq.Tree Go.Mq.Run
open Go.Mq.Check (fG bZ bK dx)
set_option maxRecDepth 100000
theorem aaa:ji 0:=fun _ _ _ _ _ ho=>absurd rfl ho
theorem aab (g:Nat) (hE : ∀ g',g'≤g→ji g') (hC:yM g):ji (g + 1):=by
 intro L d q fr x s w ov ob u m h hq hfr hx hfe ho;cases x with
 | num p n=>exact ZP g h hx
 | var p mm n=>
  by_cases hm : mm=[]
  ·subst hm
   cases hv : dN fr n with
   | some v=>
    have he : (fns L.M (g + 1)).e d q fr (.var p [] n) s = .ok v s:=by
     show (match dN fr n with
      | some v=>O.ok v s
      | none=>fV (s.vs q n) s)=_
     rw [hv]
    rw [he];exact ZQ h hfr hx hv
   | none=>
    have he : (fns L.M (g + 1)).e d q fr (.var p [] n) s=fV (s.vs q n) s:=by
     show (match dN fr n with
      | some v=>O.ok v s
      | none=>fV (s.vs q n) s)=_
     rw [hv]
    rw [he] at ho ⊢;obtain⟨v,hv2⟩:=Qr ho;rw [hv2];exact ZR h hfr hx hv hv2
  ·have he : (fns L.M (g + 1)).e d q fr (.var p mm n) s=fV (s.vs mm n) s:=by
    show (if mm=[] then _ else _)=_
    rw [if_neg hm]
   rw [he] at ho ⊢;obtain⟨v,hv2⟩:=Qr ho;rw [hv2];exact ZT h hfr hx hm hv2
 | item p mm n i=>
  cases eB:L.M (bV q mm) with
  | none=>exact absurd (by show (if (L.M (bV q mm)).isSome then _ else _)=_;rw [eB];rfl) ho
  | some mq=>
   by_cases hm : mm=[]
   ·subst hm
    cases hd:L.ak q n with
    | none=>exact ZZ g (hE g (Nat.le_refl _)) h hq hfr hx hfe eB hd ho
    | some x=>exact ZY g (hE g (Nat.le_refl _)) h hq hfr hx hfe eB hd ho
   ·rw [bV,if_neg hm] at eB
    cases hd:L.ak mm n with
    | none=>exact Z6 g (hE g (Nat.le_refl _)) h hq hfr hx hfe hm eB hd ho
    | some x=>exact Z0 g (hE g (Nat.le_refl _)) h hq hfr hx hfe hm eB hd ho
 | un p op x=>exact ZU g (hE g (Nat.le_refl _)) h hq hfr hx hfe ho
 | bin p op x y=>
  by_cases h1 : op=[97,110,100]
  ·subst h1
   exact ZV g (hE g (Nat.le_refl _)) h hq hfr hx hfe ho
  ·by_cases h2 : op=[111,114]
   ·subst h2
    exact ZW g (hE g (Nat.le_refl _)) h hq hfr hx hfe ho
   ·exact ZX g (hE g (Nat.le_refl _)) h hq hfr hx hfe h1 h2 ho
 | app p mm n l=>
  have hs : (fns L.M (g + 1)).e d q fr (.app p mm n l) s=match L.M (bV q mm) with
   | none=>.stuck
   | some mo=>match mo.procs.find? fun p=>p.name == n with
    | none=>.stuck
    | some p=>((fns L.M g).es d q fr l s).bind fun args s=>(fns L.M g).c d (bV q mm) p args s:=rfl
  cases eB:L.M (bV q mm) with
  | none=>exact absurd (by rw [hs,eB]) ho
  | some mq=>
   cases hf : mq.procs.find? fun p=>p.name == n with
   | none=>exact absurd (by rw [hs,eB];simp only [hf]) ho
   | some pr=>
    by_cases hm : mm=[]
    ·subst hm
     exact Z8 g hE hC h hq hfr hx hfe eB hf ho
    ·rw [bV,if_neg hm] at eB
     exact Z9 g hE hC h hq hfr hx hfe hm eB hf ho
 | nil=>exact absurd rfl ho
 | cons x r=>exact absurd rfl ho
end Go.Proofs.YtechofppmnnomaaGreatDoor
