/- Some texts in one. -/
import Derived.Test.YtechofppmnnomaaGreatDoorB33
import Derived.Test.YtechofppmnnomaaGreatDoorB34
namespace Go.Proofs.YtechofppmnnomaaGreatDoor
open Go Go.RowKit Go.Mq Go.Mq.Tree Go.Mq.Sym Go.Mq.Run
open Go.Mq.Check (check Out)
open Go.Mq.fo (aZ getM dB jm jV jo mP)
set_option maxRecDepth 100000
set_option maxHeartbeats 4000000
structure One (w0 w:World) (bw:Nat) (Own G Q:Nat→Prop) (W:Wd):Prop where
 at_:dZ w Own G bw W
 inv:Run.Inv W
 own : ∀ y,Own y→w0.heap.size≤y
 q : ∀ y,Q y→y < w.heap.size∧¬ Own y
 aP:ae [] w0 w
def qD (Q:Nat→Prop) (w w':World):Prop:=∃ Z,ae Z w w' ∧ ∀ x∈Z,¬ Q x
section
variable {w0 w w':World} {bw:Nat} {Own G Q Own' G':Nat→Prop} {W W':Wd}
theorem One.kept (h:One w0 w bw Own G Q W) (hc:ae [] w w') (Q':Nat→Prop) (hQ : ∀ y,Q' y→Q y∨w.heap.size≤y∧y < w'.heap.size):One w0 w' bw Own G Q' W:=
 ⟨h.at_.kept hc (by simp),h.inv,h.own,fun y hy=>by
  have:=hc.size;rcases hQ y hy with k|k
  ·have:=h.q y k;exact⟨by omega,this.2⟩
  ·exact⟨k.2,fun ho=>by have:=h.at_.lt y (.inl ho);omega⟩,h.aP.then hc⟩
theorem One.put (h:One w0 w bw Own G Q W) {b:Nat} (hc:ae [b] w w') (hb : ¬ Own b∧¬ G b∧w0.heap.size≤b):One w0 w' bw Own G Q W:=
 ⟨h.at_.kept hc (fun x hx=>by simp at hx;subst hx;exact⟨hb.1,hb.2.1⟩),h.inv,h.own,fun y hy=>⟨by have:=(h.q y hy).1;have:=hc.size;omega,(h.q y hy).2⟩,h.aP.trans hc (fun x hx=>by simp at hx;subst hx;exact .inr hb.2.2)⟩
theorem One.act (h:One w0 w bw Own G Q W) (hv:dZ w' Own' G' bw W') (hI:Run.Inv W') (ho : ∀ y,Own' y→Own y∨w.heap.size≤y) (hc:vF Own w w'):One w0 w' bw Own' G' Q W'∧qD Q w w':=by
 obtain⟨Z,hz,hZ⟩:=hc;have h0:=h.aP.size;refine⟨⟨hv,hI,fun y hy=>?_,fun y hy=>⟨by have:=h.q y hy;have:=hz.size;omega,fun k=>?_⟩,h.aP.trans hz (fun x hx=>.inr (h.own x (hZ x hx)))⟩,Z,hz,fun x hx k=>(h.q x k).2 (hZ x hx)⟩
 ·rcases ho y hy with k|k
  ·exact h.own y k
  ·omega
 ·rcases ho y k with k|k
  ·exact(h.q y hy).2 k
  ·have:=(h.q y hy).1;omega
end
theorem afc {w0 w:World} {bw B g:Nat} {Own G Q F:Nat→Prop} {W:Wd} {x:Ac} {r:Wd × Nat × List Int × Int × Int} (h:One w0 w bw Own G Q W) (hL:Laid w B) (hE:kH w) (nz : 0 < w0.heap.size) (ha:Row w F x.ad (ints x.args)) (hF : ∀ y,F y→y < w0.heap.size) (ht : x.text.length≤1000) (h10 : x.args.length≤10) (hr : o7 g W x 300=some r) (hI:Run.Inv r.1) :
  Calls Tryz.prog 23 #[ptr bw,.agg #[num x.what,str x.text,str x.name,str x.proc,.slice x.ad x.args.length x.cap],num 300] w (fun e w'=>∃ (ea:Option Addr) (ec:Nat) (Own' G':Nat→Prop),e = .returned (.tuple #[.agg #[num r.2.1,.slice ea r.2.2.1.length ec],num r.2.2.2.1,num r.2.2.2.2])∧One w0 w' bw Own' G' Q r.1∧(∀ y,G' y→G y∨w.heap.size≤y)∧qD Q w w'):=by
 have h0:=h.aP.size;refine(ae0 h.at_ h.inv hL hE (fun ho=>by have:=h.own _ ho;omega) ha (fun y hy=>⟨by have:=hF y hy;omega,fun ho=>by have:=h.own y ho;have:=hF y hy;omega⟩) ht h10 (by omega : 300≤1000000) hr).mono ?_;rintro _ w' ⟨ve,OV',GV',rfl,⟨ov,rfl,hov,hof⟩,nY,hown,hg,hch⟩;obtain⟨ea,ec,rfl⟩:=gu hov;obtain⟨h1,h2⟩:=h.act nY hI hown hch;exact⟨ea,ec,OV',GV',rfl,h1,hg,h2⟩
def qY (w0 w:World) (bw:Nat) (Q:Nat→Prop) (W:Wd):Prop:=∃ Own G,One w0 w bw Own G Q W
section
variable {w0 w w':World} {bw b:Nat} {Q:Nat→Prop} {W W':Wd}
theorem qY.kept (h:qY w0 w bw Q W) (hc:ae [] w w') (Q':Nat→Prop) (hQ : ∀ y,Q' y→Q y∨w.heap.size≤y∧y < w'.heap.size):qY w0 w' bw Q' W:=by
 obtain⟨Own,G,h⟩:=h;exact⟨Own,G,h.kept hc Q' hQ⟩
theorem qY.aP (h:qY w0 w bw Q W):ae [] w0 w:=by obtain⟨_,_,h⟩:=h;exact h.aP
theorem qY.inv (h:qY w0 w bw Q W):Run.Inv W:=by obtain⟨_,_,h⟩:=h;exact h.inv
theorem qD.of (h:ae [] w w'):qD Q w w':=⟨[],h,by simp⟩
theorem qD.then {w1:World} (h:qD Q w w') (k:qD Q w' w1):qD Q w w1:=by
 obtain⟨Z,hz,hZ⟩:=h;obtain⟨Y,hy,hY⟩:=k;exact⟨Z ++ Y,(hz.mono (fun x hx=>.inl (List.mem_append_left _ hx))).then (hy.mono (fun x hx=>.inl (List.mem_append_right _ hx))),fun x hx=>(List.mem_append.1 hx).elim (hZ x) (hY x)⟩
theorem qD.blk {cs:Array Value} {t:TypeId} (h:qD Q w w') (hb:ag w b cs t) (hq:Q b):ag w' b cs t:=by
 obtain⟨Z,hz,hZ⟩:=h;exact hb.kept hz (fun hm=>hZ b hm hq)
theorem qD.mod {m:Mod} {v:Value} {Gm:Nat→Prop} (h:qD Q w w') (hm:gY w Gm m v) (hq : ∀ y,Gm y→Q y):gY w' Gm m v:=by
 obtain⟨Z,hz,hZ⟩:=h;exact hm.kept hz (fun x hx k=>hZ x hx (hq x k))
end
theorem IK {w0 w:World} {bw:Nat} {Q:Nat→Prop} {W:Wd} (h:qY w0 w bw Q W):Calls Tryz.prog 17 #[ptr bw] w (fun e w'=>e = .returned (str (allT W))∧ae [] w w'):=by
 obtain⟨_,_,h⟩:=h;exact ac6 h.at_ h.inv
theorem U3 {w0 w:World} {bw:Nat} {Q:Nat→Prop} {W:Wd} (h:qY w0 w bw Q W) (q n:Run.Nm):Calls Tryz.prog 29 #[ptr bw,str q,str n] w (TC w (qy W q n)):=by
 obtain⟨_,_,h⟩:=h;exact TD h.at_ q n
theorem MZ {w0 w:World} {bw B:Nat} {Q:Nat→Prop} {W W':Wd} {m:Mod} {vm:Value} (h:qY w0 w bw Q W) (hL:Laid w B) (hm:gY w Q m vm) (hg:kL m) (hs : fE W m=(W',.fine)) :
  Calls Tryz.prog 24 #[ptr bw,vm] w (fun e w'=>e = .returned .nilIface∧qY w0 w' bw Q W'∧qD Q w w'):=by
 obtain⟨_,_,h⟩:=h;refine(Uw h.at_ h.inv hm h.q hg hL).mono ?_;rintro _ w' ⟨vo,rfl,he,hw,hch⟩;obtain⟨h1,h2⟩:=h.act hw (L9 h.inv hg) (fun y hy=>hy.imp id (fun h=>h.1)) hch;rw [hs] at he h1;exact⟨congrArg _ he,⟨_,_,h1⟩,h2⟩
def sO (w:World) (b:Nat) (Q:Nat→Prop) (M:Ms) (es:List (Run.Nm × Value)):Prop:=aZ w b es ∧ ∀ n,match M n with
 | none=>getM es n=none
 | some m=>∃ v,getM es n=some v∧gY w Q m v
theorem sO.kept {w w':World} {b:Nat} {Q:Nat→Prop} {M:Ms} {es:List (Run.Nm × Value)} {Z:List Nat} (h:sO w b Q M es) (hc:ae Z w w') (hb : b∉Z) (hZ : ∀ x∈Z,¬ Q x):sO w' b Q M es:=by
 refine⟨h.1.kept hc hb,fun n=>?_⟩;have:=h.2 n;cases hM:M n with
 | none=>rw [hM] at this;exact this
 | some m=>
  rw [hM] at this;obtain⟨v,h1,h2⟩:=this;exact⟨v,h1,h2.kept hc hZ⟩
theorem sO.mono {w:World} {b:Nat} {Q Q':Nat→Prop} {M:Ms} {es:List (Run.Nm × Value)} (h:sO w b Q M es) (hQ : ∀ y,Q y→Q' y):sO w b Q' M es:=by
 refine⟨h.1,fun n=>?_⟩;have:=h.2 n;cases hM:M n with
 | none=>rw [hM] at this;exact this
 | some m=>
  rw [hM] at this;obtain⟨v,h1,h2⟩:=this;exact⟨v,h1,h2.mono hQ⟩
theorem aff {w:World} {b:Nat} {Q:Nat→Prop} {M:Ms} {es:List (Run.Nm × Value)} (h:sO w b Q M es) (hb : ¬ Q b) {m:Mod} {v:Value} (hm:gY w Q m v) :
  ∃ w',(Instr.mapUpdate 63 (.map (some b)) (str m.name) v).run Tryz.prog w = .ok () w'∧sO w' b Q (bT M m) (dB es m.name v)∧ae [b] w w':=by
 obtain⟨w',h1,h2,h3⟩:=jo (P:=Tryz.prog) Tryz.underlying63 Tryz.underlying9 h.1 m.name v;have hk : ∀ x∈[b],¬ Q x:=by simpa using hb
 refine⟨w',h1,⟨h2,fun n=>?_⟩,h3⟩;rw [mP,bT];by_cases e : n=m.name
 ·rw [if_pos e,if_pos e.symm];exact⟨v,rfl,hm.kept h3 hk⟩
 ·rw [if_neg e,if_neg (Ne.symm e)]
  have:=h.2 n;cases hM:M n with
  | none=>rw [hM] at this;exact this
  | some m'=>
   rw [hM] at this;obtain⟨v,h1,h2⟩:=this;exact⟨v,h1,h2.kept h3 hk⟩
theorem afg {w:World} {Q:Nat→Prop} {m:Mod} {vi vv vp vb vf:Value} (h:gY w Q m (.agg #[str m.name,vi,vv,vp,vb])) (k:lD w Q (xZ :: m.vars) vf):gY w Q (ja m) (.agg #[str m.name,vi,vf,vp,vb]):=by
 obtain⟨_,_,_,_,he,h1,_,h3,h4⟩:=h;cases he
 exact⟨_,_,_,_,rfl,h1,k,h3,h4⟩
theorem zero_mod (w:World) : (zeroValue 32).run Tryz.prog w = .ok (.agg #[str [],ah,ah,ah,ah]) w:=by kernel_rfl
theorem afh : (Tryz.prog.info? 68).map (fun i=>(i.zero,i.size,i.bytes))=some (some (.agg #[.string ⟨#[]⟩,.int .i64 0,.int .i64 0,.bool false]),4,40):=by kernel_rfl
theorem afi (x:bJ) (w:World):Calls Tryz.prog 26 (#[.agg #[str x.name,num x.pos,num x.len,.bool x.seen]] ++ #[]) w (fun e w'=>e = .returned (.bool (x.name == [102,114,101,115,104]))∧ae [] w w'):=by
 have z:=ag.new w #[str x.name,num x.pos,num x.len,.bool x.seen] 68;have z0:=z.cell 0 _ rfl;clear z;cases hq : (x.name == [102,114,101,115,104])
 all_goals
  go_enter Tryz.func26,Tryz.ntmps26
  go_wp2_with fail;go_ret
  exact⟨by rfl,(ae.refl _ _).alloc _⟩
theorem afj (x:aX) (pos:Int) (a1:Option Addr) (k1:Nat) (a2:Option Addr) (n2 k2:Nat) (a3:Option Addr) (n3 k3:Nat) (w:World):Calls Tryz.prog 28 (#[.agg #[str x.name,num pos,.bool x.seen,.slice a1 x.params.length k1,.slice a2 n2 k2,.slice a3 n3 k3]] ++ #[]) w (fun e w'=>e = .returned (.bool (x.name == [102,114,101,115,104]))∧ae [] w w'):=by
 have z:=ag.new w #[str x.name,num pos,.bool x.seen,.slice a1 x.params.length k1,.slice a2 n2 k2,.slice a3 n3 k3] 72;have z0:=z.cell 0 _ rfl;clear z;cases hq : (x.name == [102,114,101,115,104])
 all_goals
  go_enter Tryz.func28,Tryz.ntmps28
  go_wp2_with fail;go_ret
  exact⟨by rfl,(ae.refl _ _).alloc _⟩
end Go.Proofs.YtechofppmnnomaaGreatDoor
namespace Go.Proofs.YtechofppmnnomaaGreatDoor
open Go Go.RowKit Go.Mq Go.Mq.Tree Go.Mq.Sym Go.Mq.Run
open Go.Mq.Check (check Out)
open Go.Mq.fo (aZ getM dB jm jV jo mP)
set_option maxRecDepth 100000
set_option maxHeartbeats 4000000
theorem afk (l:List Ac) (hl : l.length≤9223372036854775807) (n:List UInt8) (hn63 : n.length≤9223372036854775807) (F:Nat→Prop) (a:Option Addr) (c:Nat) (w:World) (B:Nat) (hL:Laid w B) (hE:kH w) (hA:Eu w F l a) (hF : ∀ y,F y→y < w.heap.size)
  (hf : ∀ x∈l,x.text.length≤9223372036854775807∧x.name.length≤9223372036854775807∧x.proc.length≤9223372036854775807∧x.args.length≤9223372036854775807) :
  Calls Tryz.prog 6 #[.slice a l.length c,str n] w (Holds w):=by
 have HH:=zh (ads l hl F a c w hA.row hf);by_cases hq : xU l=true∧n.length≤40
 rotate_left
 ·cases hh : xU l
  all_goals
   rw [hh] at HH;have M0 : xU l=true→40 < n.length:=fun h=>Nat.lt_of_not_le fun k=>hq ⟨h,k⟩
   try have M0:=M0 hh
   clear hq hh hL hE hA hF hf
   go_enter Tryz.func6,Tryz.ntmps6
   go_wp2_with fail;refine HH.out.mono ?_;rintro _ w1 ⟨rfl,hc1⟩;have cZ:=zh hc1;clear hc1;go_wp2_with fail;go_ret
   exact⟨rfl,cZ.out⟩
 obtain⟨hh,M0⟩:=hq;rw [hh] at HH;obtain⟨hl12,dK⟩:=ae1 hh;have hmm:=@run_makeMap Tryz.prog;have afl:=zh dK;have HL:=zh hL;have sI:=zh hE;have HA:=zh hA;have HF:=zh hF;clear hh hf dK hL hE hA hF
 go_enter Tryz.func6,Tryz.ntmps6
 go_wp2_with fail;refine HH.out.mono ?_;rintro _ w1 ⟨rfl,hc1⟩;have HR:=zh (aeP w1 B (HL.out.kept hc1 (by simp)));have cZ:=zh hc1;clear hc1;go_wp2_with fail;refine HR.out.mono ?_;rintro _ w2 ⟨rfl,hc2⟩;have aD:=zh (cZ.out.then hc2);obtain⟨wV,xK⟩ : ∃ x,w2.alloc (.cells #[.map none,ah] 40)=x:=⟨_,rfl⟩
 have M3:ag wV w2.heap.size #[.map none,ah] 40:=by rw [← xK];exact ag.new w2 _ _
 have zI:ae [] w2 wV:=by rw [← xK];exact(ae.refl _ _).alloc _
 have hsV : wV.heap.size=w2.heap.size + 1:=by rw [← xK];simp
 obtain⟨wM,zB⟩ : ∃ x,wV.alloc (.map #[] 0)=x:=⟨_,rfl⟩
 have vz:ae [] wV wM:=by rw [← zB];exact(ae.refl _ _).alloc _
 have hmp:aZ wM wV.heap.size []:=by rw [← zB];exact aZ.made wV
 obtain⟨bw,hbw⟩ : ∃ b,b=w2.heap.size:=⟨_,rfl⟩
 obtain⟨bm,gy⟩ : ∃ b,b=wV.heap.size:=⟨_,rfl⟩
 have HB:=zh (show bm=bw + 1∧bw=w2.heap.size by omega);have HK:=zh (show One w2 wM bw (fun y=>y=bw) (fun _=>False) (fun y=>False∨y=bm) Wd.zero∧sO wM bm (fun _=>False) Wd.zero.M []∧¬ False from by
  rw [← hbw] at M3;rw [← gy] at hmp;refine⟨⟨dZ.new (M3.kept vz (by simp)),Inv.zero,fun y hy=>by omega,fun y hy=>⟨?_,?_⟩,zI.then vz⟩,⟨hmp,fun _=>rfl⟩,id⟩
  ·have:=hmp.lt;have hy:=hy.resolve_left id;omega
  ·have hy:=hy.resolve_left id;omega)
 clear hc2 M3 zI hsV vz hmp;go_wp2_with fail;rw [← hbw,← gy];clear xK zB hbw gy
 go_loopw [7,8,9,10,11,12] (fun i _ _ _ _ _ wr=>∃ (k:Nat) (W:Wd) (Own G Q:Nat→Prop) (es:List (Run.Nm × Value)),i = .int .i64 k∧k≤l.length∧Hid (One w2 wr bw Own G (fun y=>Q y∨y=bm) W∧sO wr bm Q W.M es∧¬ Q bm∧¬ G bm)) (fun i _ _ _ _ _ _=>l.length - (intOf i).toNat)
 case atStart=>exact⟨0,_,_,_,fun _=>False,_,rfl,Nat.zero_le _,zh ⟨HK.out.1,HK.out.2.1,id,id⟩⟩
 case round=>
  obtain⟨k,W,Own,G,Q,es,rfl,hk,hrl⟩:=hrel;by_cases hlt : k < l.length
  ·obtain⟨x,hx⟩ : ∃ x,l[k]?=some x:=⟨l[k],List.getElem?_eq_getElem hlt⟩
   have hmem:=List.mem_of_getElem? hx;have hcw:=aD.out.then hrl.out.1.aP
   obtain⟨bb,off,rfl,d0,d1,d2,d3,d4⟩:=Ev (HA.out.row.kept hcw (by simp)) hx;obtain⟨ft,_,_,fa⟩:=afl.out x hmem;have nz : 0 < w2.heap.size:=by have:=aD.out.size;have:=lt_of_cell sI.out;omega
   obtain⟨g,r,hr,hI⟩:=adx hrl.out.1.inv ft 300;have HR:=zh hr;have vC:=hrl;have afn:=zh (afc hrl.out.1 (HL.out.kept hcw (by simp)) (sI.out.kept hcw (by simp)) nz ((HA.out.args x hmem).2.kept hcw (by simp)) (fun y hy=>by have:=HF.out y hy;have:=aD.out.size;omega) ft fa hr hI);have HX:=zh hx;have afo:=hrl.out.2.1.1.lt;clear hx hcw hr hI nz hrl hmem;go_wp2_with fail;refine afn.out.mono ?_;rintro _ w8 ⟨ea,ec,Own',G',rfl,hone,hg',Z,hz,hZ⟩;obtain⟨wA,w9,az,EF,⟨i0,i1⟩,⟨j0,j1⟩,bN,_⟩:=ae2 w8 43 r.2.1 (.slice ea r.2.2.1.length ec) (z:=num 0) (z1:=ah);have x9:=zh (hone.kept bN (fun y=>Q y∨y=bm) (fun y hy=>.inl hy));have dF:=zh ((vC.out.2.1.kept hz (fun hm=>hZ _ hm (.inr rfl)) (fun x hx h=>hZ x hx (.inl h))).kept bN (by simp) (by simp));have HG:=zh (show ¬ G' bm from fun h=>(hg' _ h).elim vC.out.2.2.2 (fun h=>by omega));have M4:=aD.out.then x9.out.aP
   clear d0 d1 d2 d3 d4;obtain⟨_,_,M5,d0,d1,d2,d3,d4⟩:=Ev (HA.out.row.kept M4 (by simp)) HX.out;cases M5
   have HP:=zh (Cs x.text (by omega) w9 B (HL.out.kept M4 (by simp)));clear hone hg' hz hZ bN M4 afo;go_wp2_with fail;clear az EF i0 i1 j0 j1 d0 d1 d2 d3 d4;refine HP.out.mono ?_;rintro e w10 ⟨M6,hrr⟩;cases hp : parse x.text
   case' bad en q=>
    rw [hp] at hrr;obtain⟨b,rfl,_,_⟩:=hrr;obtain⟨wA,wF,az,hwF,hz,fH,aG⟩:=EN w10 32 (str []) (str []) ah ah ah ah (z1:=ah) (z2:=ah) (z3:=ah) (z4:=ah);have EP:=zh trivial
   case' ok m=>
    rw [hp] at hrr;obtain⟨v,rfl,hmod⟩:=hrr;have ER:=hmod;obtain⟨ai,ci,av,cv,ap,cp,ab,cb,rfl,_,_⟩:=xc hmod;obtain⟨wA,wF,az,hwF,hz,fH,aG⟩:=EN w10 32 (str []) (str m.name) (.slice ai m.imports.length ci) (.slice av m.vars.length cv) (.slice ap m.procs.length cp) (.slice ab m.body.len cb) (z1:=ah) (z2:=ah) (z3:=ah) (z4:=ah);have EP:=zh (ER.kept fH (by simp));clear hmod ER
   all_goals
    obtain⟨z0,z1,z2,z3,z4⟩:=hz.five;obtain⟨y0,y1,y2,y3,y4,_⟩:=hz.kE;obtain⟨m0,m1,m2,m3,m4⟩:=aG.five;have dM:=zh (M6.then fH);have U4:=aD.out.then (x9.out.aP.then dM.out)
    obtain⟨_,_,M5,d0,d1,d2,d3,d4⟩:=Ev (HA.out.row.kept U4 (by simp)) HX.out;obtain⟨_,_,LH,c0,c1,c2,c3,c4⟩:=Ev (HA.out.row.kept (aD.out.then x9.out.aP) (by simp)) HX.out;cases M5;cases LH
    have qM:=zh aG;have pz:=zh hp;have jM:=zh (show w9.heap.size≤w10.heap.size from M6.size);clear hz M6 fH U4 aG hp
   rotate_left
   ·go_wp2_with fail
    refine⟨⟨k + 1,r.1,Own',G',Q,es,by go_num,by omega,zh ⟨x9.out.kept dM.out _ (fun y hy=>.inl hy),?_,vC.out.2.2.1,HG.out⟩⟩,by simp [intOf];omega⟩;rw [(MX HR.out).2.2 _ _ pz.out];exact dF.out.kept dM.out (by simp) (by simp)
   obtain⟨cd,hcd⟩ : ∃ b,b=r.2.2.2.2:=⟨_,rfl⟩
   rw [← hcd];have dL:=zh hcd;clear hcd;cases hq0 : (cd == 0)
   rotate_left
   cases hq1 : (x.what == 1)
   ·have hM:=(MX HR.out).1 m pz.out (by rw [← dL.out];simpa using hq0) (by simpa using hq1)
    obtain⟨Q',hQ'⟩ : ∃ Q':Nat→Prop,Q'=fun y=>Q y∨New w9 w10 y:=⟨_,rfl⟩
    have hq8:=x9.out.at_;have afp:=dF.out.1.lt;have xQ : ¬ Q' bm:=by rw [hQ'];rintro(h|h);exact vC.out.2.2.1 h;have:=h.1;omega
    obtain⟨w12,hrun,hla,nR⟩:=aff (m:=m) ((dF.out.kept dM.out (by simp) (by simp)).mono (Q':=Q') (fun y hy=>by rw [hQ'];exact .inl hy)) xQ (EP.out.mono (fun y hy=>by rw [hQ'];exact .inr hy));have afq:=zh ((x9.out.kept dM.out (fun y=>Q' y∨y=bm) (fun y hy=>by
     rw [hQ'] at hy;rcases hy with(h|h)|h
     ·exact .inl (.inl h)
     ·have:=qM.out.lt;have:=h.1;have:=h.2;exact .inr ⟨by omega,by omega⟩
     ·exact .inl (.inr h))).put nR ⟨fun ho=>(x9.out.q bm (.inr rfl)).2 ho,HG.out,by have:=HB.out;omega⟩)
    have HLA:=zh (show sO w12 bm Q' r.1.M _ by rw [hM];exact hla);have Ii:=zh xQ;clear hM hQ' hq8 afp xQ hla nR;go_wp2_with fail;exact⟨⟨k + 1,r.1,Own',G',Q',_,by go_num,by omega,zh ⟨afq.out,HLA.out,Ii.out,HG.out⟩⟩,by simp [intOf];omega⟩
   all_goals
    have hno : cd≠0∨x.what=1:=by simp_all
    go_wp2_with fail;refine⟨⟨k + 1,r.1,Own',G',Q,es,by go_num,by omega,zh ⟨x9.out.kept dM.out _ (fun y hy=>.inl hy),?_,vC.out.2.2.1,HG.out⟩⟩,by simp [intOf];omega⟩;rw [(MX HR.out).2.1 (dL.out ▸ hno)];exact dF.out.kept dM.out (by simp) (by simp)
  have hfin:=hrl;have HM:=zh (hrl.out.2.1.2 n);have HK:=zh (fun w' (hc:ae [] wr w')=>jV (P:=Tryz.prog) Tryz.underlying63 Tryz.underlying9 (zero_mod w') (hrl.out.2.1.1.kept hc (by simp)) n);cases hM:W.M n with
  | none=>
   have hm:=HM.out;rw [hM] at hm;simp only at hm;obtain⟨wA,wF,az,hwF,hz,fH,aG⟩:=EN wr 32 (str []) (str []) ah ah ah ah (z1:=ah) (z2:=ah) (z3:=ah) (z4:=ah);obtain⟨z0,z1,z2,z3,z4⟩:=hz.five;obtain⟨y0,y1,y2,y3,y4,_⟩:=hz.kE;have hlk:=HK.out wr (ae.refl _ _);rw [hm] at hlk;simp only [Option.getD_none,Option.isSome_none] at hlk;have dM:=zh (aD.out.then (hrl.out.1.aP.then fH));clear hz fH aG hm hM;go_wp2_with fail;go_ret
   exact⟨rfl,dM.out⟩
  | some m=>
   have hm:=HM.out;rw [hM] at hm;obtain⟨v,hgv,hmod⟩:=hm;obtain⟨hgood,hname⟩:=hrl.out.1.inv.ok.good n m hM;subst hname;have hself:=ae6 hrl.out.1.inv hM;have ER:=hmod;obtain⟨ai,ci,av,cv,ap,cp,ab,cb,rfl,_,_⟩:=xc hmod;obtain⟨wA,wF,az,hwF,hz,fH,aG⟩:=EN wr 32 (str []) (str m.name) (.slice ai m.imports.length ci) (.slice av m.vars.length cv) (.slice ap m.procs.length cp) (.slice ab m.body.len cb) (z1:=ah) (z2:=ah) (z3:=ah) (z4:=ah);obtain⟨z0,z1,z2,z3,z4⟩:=hz.five;obtain⟨y0,y1,y2,y3,y4,_⟩:=hz.kE;have hlk:=HK.out wr (ae.refl _ _);rw [hgv] at hlk;simp only [Option.getD_some,Option.isSome_some] at hlk;obtain⟨bx,hbx⟩ : ∃ b,b=wr.heap.size:=⟨_,rfl⟩
   rw [← hbx] at aG;have HQ:=zh (show ∀ y,(fun y=>Q y∨y=bx) y→y < wF.heap.size from fun y hy=>by
    rcases hy with h|h
    ·have:=(hrl.out.1.q y (.inl h)).1;have:=fH.size;omega
    ·have:=aG.lt;omega)
   have HO:=zh (show qY w2 wF bw (fun y=>Q y∨y=bx) W from⟨_,_,hrl.out.1.kept fH _ (fun y hy=>hy.elim (fun h=>.inl (.inl h)) (fun h=>.inr ⟨by omega,HQ.out y (.inr h)⟩))⟩);have HMO:=zh ((ER.kept fH (by simp)).mono (G:=fun y=>Q y∨y=bx) (fun y hy=>.inl hy));have gJ:=zh aG;obtain⟨sv,hsv⟩ : ∃ s,s=bs (allT W):=⟨_,rfl⟩
   have uP:=zh (show str (allT W) = .string sv by rw [hsv]);have HS:=zh hself;have gm:=zh hgood;have EP:=zh hM;have DZ:=zh (IK HO.out);rw [uP.out] at DZ;have HL2:=zh (fun w' (hc:ae [] w2 w')=>HL.out.kept (aD.out.then hc) (by simp));clear hz fH aG hmod ER hgood hgv hM hself hsv HK HM hfin;go_wp2_with fail;rw [← hbx];clear az hwF z0 z1 z2 z3 z4 y0 y1 y2 y3 y4 hlk hbx;refine DZ.out.mono ?_;rintro _ w3 ⟨rfl,hc3⟩;have wZ:=zh (HO.out.kept hc3 _ (fun y hy=>.inl hy));have hb3:=gJ.out.kept hc3 (by simp);obtain⟨m0,m1,m2,m3,m4⟩:=hb3.five;have HB3:=zh hb3;have lK:=zh (HMO.out.kept hc3 (by simp));have sH:=zh (MZ wZ.out (HL2.out _ wZ.out.aP) lK.out gm.out HS.out);clear hc3 hb3;go_wp2_with fail;refine sH.out.mono ?_;rintro _ w4 ⟨rfl,hone,hsp⟩;have nP:=zh hone;have qC:=zh (hsp.blk HB3.out (.inr rfl));have rT:=zh (hsp.mod lK.out (fun y hy=>hy));have U5:=zh (IK nP.out);rw [uP.out] at U5;clear hone hsp;go_wp2_with fail;refine U5.out.mono ?_;rintro _ w5 ⟨rfl,bC⟩;have hb5:=qC.out.kept bC (by simp);clear m0 m1 m2 m3 m4;obtain⟨m0,m1,m2,m3,m4⟩:=hb5.five;obtain⟨wA,w6,az,iq,hz,fH,hb6⟩:=EN w5 32 (str []) (str m.name) (.slice ai m.imports.length ci) (.slice av m.vars.length cv) (.slice ap m.procs.length cp) (.slice ab m.body.len cb) (z1:=ah) (z2:=ah) (z3:=ah) (z4:=ah);obtain⟨z0,z1,z2,z3,z4⟩:=hz.five;obtain⟨y0,y1,y2,y3,y4,_⟩:=hz.kE;have hc6:=bC.then fH
   have M7:=zh (nP.out.kept bC _ (fun y hy=>.inl hy));have oV:=zh (rT.out.kept bC (by simp));have aft:=zh (qC.out.kept bC (by simp));have BB:=zh fH;have M8:=zh (nP.out.kept hc6 _ (fun y hy=>.inl hy));have M9:=qC.out.kept hc6 (by simp);obtain⟨n0,n1,n2,n3,n4⟩:=M9.five;have afu:=zh M9;have U6:=zh hb6;have vE:=zh (rT.out.kept hc6 (by simp));clear hz bC fH hb6 hb5 hc6 M9;cases h10 : decide ((m.vars.length:Int) < 10) with
   | false=>
    go_wp2_with fail;go_ret
    exact⟨rfl,aD.out.then M8.out.aP⟩
   | true=>
    obtain⟨_,_,_,_,_,_,_,_,he,hgl,_⟩:=xc vE.out;cases he
    have IC:=zh (PX #[] 26 (fun _ _=>rfl) m.vars (by have:=gm.out.wf.oF;omega) (fun x=>x.name == [102,114,101,115,104]) _ _ w6 hgl (fun x _ w' _=>afi x w'));obtain⟨b2,hb2⟩ : ∃ b,b=m.vars.any (fun x=>x.name == [102,114,101,115,104]):=⟨_,rfl⟩
    rw [← hb2] at IC;have HB2:=zh hb2;clear hgl hb2;go_wp2_with fail;clear az iq z0 z1 z2 z3 z4 y0 y1 y2 y3 y4;refine IC.out.mono ?_;rintro _ w7 ⟨rfl,dQ⟩;have fF:=zh dQ;have IL:=afu.out.kept dQ (by simp);clear n0 n1 n2 n3 n4 dQ;obtain⟨n0,n1,n2,n3,n4⟩:=IL.five;cases b2 with
    | true=>
     go_wp2_with fail;go_ret
     exact⟨rfl,aD.out.then (M8.out.aP.then fF.out)⟩
    | false=>
     obtain⟨_,_,_,_,_,_,_,_,he,_,hpl⟩:=xc (vE.out.kept fF.out (by simp));cases he
     have wy:=zh (Y4 #[] 28 (fun _ _=>rfl) m.procs (by have:=gm.out.wf.tq;omega) (fun x=>x.name == [102,114,101,115,104]) _ _ w7 hpl (fun x _ pos a1 k1 a2 n2 k2 a3 n3 k3 w' _=>afj x pos a1 k1 a2 n2 k2 a3 n3 k3 w'));obtain⟨b3,hb3⟩ : ∃ b,b=m.procs.any (fun x=>x.name == [102,114,101,115,104]):=⟨_,rfl⟩
     rw [← hb3] at wy;have afv:=zh hb3;clear hpl hb3;go_wp2_with fail;refine wy.out.mono ?_;rintro _ w8 ⟨rfl,hc8⟩;have eU:=zh (fF.out.then hc8);cases b3 with
     | true=>
      clear hc8 IL;go_wp2_with fail;go_ret
      exact⟨rfl,aD.out.then (M8.out.aP.then eU.out)⟩
     | false=>
      have cB:=zh (show EO m from by
       refine⟨?_,fun g hg e=>?_,fun x hx e=>?_⟩
       ·have : (m.vars.length:Int) < 10:=by simpa using h10
        omega
       ·have:=List.any_eq_false.1 HB2.out.symm g hg
        simp [e] at this
       ·have:=List.any_eq_false.1 afv.out.symm x hx
        simp [e] at this)
      have rY:=IL.kept hc8 (by simp);clear n0 n1 n2 n3 n4;obtain⟨wE,bV⟩ : ∃ x,w8.alloc (.cells #[str [102,114,101,115,104],num 0,num 2,.bool false] 68)=x:=⟨_,rfl⟩
      have fu:ae [] w8 wE:=by rw [← bV];exact(ae.refl _ _).alloc _
      have hown : wE.ownsRow 0 68 4 (.slice (some ⟨w8.heap.size,0,none⟩) 1 1) 1 (bJ.cells xZ):=by
       rw [← bV];exact⟨rfl,.inr ⟨w8.heap.size,1,_,rfl,Nat.zero_le _,heap_alloc_new w8 _,Nat.le_refl _,by unfold maxLen;omega,rfl,rfl⟩⟩
      have Na:=eU.out.then fu
      obtain⟨n0,n1,n2,n3,n4⟩:=(rY.kept fu (by simp)).five;obtain⟨_,_,_,_,_,_,_,_,he,hgl,_⟩:=xc (vE.out.kept Na (by simp));cases he
      obtain⟨_,_,he,_,hrow⟩:=hgl;cases he
      have afw:=zh fu;have HE8:=zh (show wE.heap.size=w8.heap.size + 1 by rw [← bV];simp);have HOWN:=zh hown;have HAT:=zh hrow.at_;have fJ:=zh Na;have aiV:=gm.out.wf.oF;have h8:=eU.out.size;clear hc8 IL rY fu hown Na hrow;go_wp2_with (at_builtin;go_must (refine CK rfl _ _ 28 rfl 68 _ 4 40 afh Tryz.underlying28 rfl (by decide) _ 1 _ rfl HOWN.out av m.vars.length cv (m.vars.flatMap bJ.cells) rfl ?_ HAT.out ?_ ?_ ?_ ?_))
      ·exact Check.JV _
      ·intro u hu
       simp only [List.mem_flatMap,bJ.cells] at hu;obtain⟨x,_,hu⟩:=hu;simp at hu
       rcases hu with rfl|rfl|rfl|rfl <;> rfl
      ·omega
      ·unfold maxLen;omega
      ·intro vn w9 hown' hch' bX
       obtain⟨an,cn,rfl,hcn,hrn⟩:=Row.jF (F:=fun y=>w8.heap.size≤y∧y < w9.heap.size) hown' (fun g hg=>⟨by
        rcases bX g hg with h1|h1
        ·simp [blk] at h1;omega
        ·have:=HE8.out;omega,pM hown' g hg⟩)
       have bN:ae [] w6 w9:=eU.out.trans (afw.out.trans hch' (fun x hx=>.inr (by simp [blk] at hx;omega))) (by simp);have IM:=U6.out.kept bN (by simp);obtain⟨y0,y1,y2,y3,y4,_⟩:=IM.kE;obtain⟨z0,z1,z2,z3,z4⟩:=IM.five;obtain⟨wS,gT⟩ : ∃ x,w9.setCell ⟨w5.heap.size,2,none⟩ (.slice an (1 + m.vars.length) cn)=x:=⟨_,rfl⟩
       have hbS:ag wS w5.heap.size #[str m.name,.slice ai m.imports.length ci,.slice an (1 + m.vars.length) cn,.slice ap m.procs.length cp,.slice ab m.body.len cb] 32:=by rw [← gT];simpa using IM.set 2 (.slice an (1 + m.vars.length) cn)
       have eX:ae [w5.heap.size] w9 wS:=by rw [← gT];exact ae.set1 _ _ _ _
       have h56:=BB.out.size;have h68:=eU.out.size;have h89:=bN.size;have PL : w5.heap.size < w6.heap.size:=U6.out.lt;have hcw:ae [] w5 wS:=(BB.out.then bN).trans eX (fun x hx=>.inr (by simp at hx;omega));obtain⟨Q',hQ'⟩ : ∃ Q':Nat→Prop,Q'=fun y=>(Q y∨y=bx)∨w5.heap.size≤y∧y < wS.heap.size:=⟨_,rfl⟩
       have rZ:=zh (M7.out.kept hcw Q' (fun y hy=>by rw [hQ'] at hy;exact hy));have U7:=zh ((oV.out.kept hcw (by simp)).mono (G:=Q') (fun y hy=>by rw [hQ'];exact .inl hy));have jP:=zh (aft.out.kept hcw (by simp));have HQX:=zh (show Q' bx by rw [hQ'];exact .inl (.inr rfl));have Mx:=zh (afg (vf:=.slice an (1 + m.vars.length) cn) U7.out ⟨an,cn,by simp [Nat.add_comm],by simpa [Nat.add_comm] using hcn,by
        rw [List.flatMap_cons];refine(hrn.kept eX (fun x hx h=>by simp at hx;have:=h.1;omega)).mono (fun y hy=>?_);rw [hQ'];exact .inr ⟨by have:=hy.1;omega,by have:=hy.2;have:=eX.size;omega⟩⟩)
       have IP:=zh (ae8 M7.out.inv EP.out cB.out);have afz:=zh (ae9 M7.out.inv EP.out);obtain⟨s0,s1,s2,s3,s4⟩:=hbS.five;have afA:=zh (MZ rZ.out (HL2.out _ rZ.out.aP) Mx.out (U0 gm.out cB.out) IP.out.1);clear hown' hch' bX hrn bN IM hbS eX hcw hQ';go_wp2_with fail;clear gT bV z0 z1 z2 z3 z4 y0 y1 y2 y3 y4 s0 s1 s2 s3 s4 n0 n1 n2 n3 n4 m0 m1 m2 m3 m4;refine afA.out.mono ?_;rintro _ w10 ⟨rfl,hone,hsp⟩;have U8:=zh hone;have afB:=zh (hsp.blk jP.out HQX.out);have afC:=zh (hsp.mod U7.out (fun y hy=>hy));have U9:=zh (IK hone);rw [afz.out,uP.out] at U9;clear hone hsp;go_wp2_with fail;refine U9.out.mono ?_;rintro _ w11 ⟨rfl,Nb⟩;have afD:=zh (U8.out.kept Nb _ (fun y hy=>.inl hy));have HG:=zh (U3 afD.out m.name [102,114,101,115,104]);rw [IP.out.2.2.1] at HG;have afE:=zh Nb;clear Nb;go_wp2_with fail;refine HG.out.mono ?_;rintro _ w12 ⟨nR,vk,rfl,hown,_⟩;obtain⟨ak,ck,rfl,_,Va⟩:=Row.jF (F:=fun _=>True) hown (fun _ _=>trivial);obtain⟨wB,fA⟩ : ∃ x,w12.alloc (.cells #[num 0,num 0] 2)=x:=⟨_,rfl⟩
       have hcB:ae [] w12 wB:=by rw [← fA];exact(ae.refl _ _).alloc _
       have xR:ag wB w12.heap.size #[num 0,num 0] 2:=by rw [← fA];exact ag.new w12 _ _
       have MO:=zh (TK [0,0] [0,0] (by decide) (by decide) ak (some ⟨w12.heap.size,0,none⟩) ck 2 (fun _=>True) (fun _=>True) wB (Va.kept hcB (by simp)) ⟨fun _=>⟨_,0,rfl,fun i x hx=>by rw [Nat.zero_add];exact xR.cell i x (by simpa using hx)⟩,fun _ _ _=>trivial⟩);have iH:=zh (afE.out.then (nR.then hcB));clear nR hown Va hcB xR;go_wp2_with fail;refine MO.out.mono ?_;rintro _ w13 ⟨rfl,Vb⟩;have Nc:=zh (iH.out.then Vb);obtain⟨m0,m1,m2,m3,m4⟩:=(afB.out.kept Nc.out (by simp)).five;have Vd:=zh (U8.out.kept Nc.out _ (fun y hy=>.inl hy));have afF:=zh (MZ Vd.out (HL2.out _ Vd.out.aP) (afC.out.kept Nc.out (by simp)) gm.out IP.out.2.2.2.1);clear Vb;go_wp2_with fail;refine afF.out.mono ?_;rintro _ w14 ⟨rfl,hone,_⟩;have afG:=zh hone;have Ve:=zh (IK hone);rw [uP.out] at Ve;clear hone m0 m1 m2 m3 m4;go_wp2_with fail;refine Ve.out.mono ?_;rintro _ w15 ⟨rfl,Vf⟩;have Vg:=zh (afG.out.kept Vf _ (fun y hy=>.inl hy));have Vh:=zh (U3 Vg.out m.name [102,114,101,115,104]);rw [IP.out.2.2.2.2] at Vh;clear Vf;go_wp2_with fail;refine Vh.out.mono ?_;rintro _ w16 ⟨hc16,rfl⟩;have aV:=aD.out.then (Vg.out.aP.then hc16)
       have HT:=zh (Es (o:=.plain 7) (sI.out.kept aV (by simp)) (w:=w16) rfl);have dM:=zh aV;clear hc16 aV;go_wp2_with fail;refine HT.out.mono ?_;rintro _ w17 ⟨rfl,hc17⟩;have afH:=zh (dM.out.then hc17);clear hc17;go_wp2_with fail;go_ret
       exact⟨rfl,afH.out⟩
end Go.Proofs.YtechofppmnnomaaGreatDoor
