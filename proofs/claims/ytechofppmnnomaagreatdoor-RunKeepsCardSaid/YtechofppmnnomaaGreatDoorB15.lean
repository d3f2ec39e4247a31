/- Some texts in one. -/
import Derived.Test.YtechofppmnnomaaGreatDoorB4
import Derived.Test.YtechofppmnnomaaGreatDoorB12
import Derived.Test.YtechofppmnnomaaGreatDoorB14
namespace Go.Mq.Run
open Go Go.RowKit Go.Mq Go.Mq.Tree
open Go.Mq.fo (aZ getM dB)
open Go.Mq.Check (fI cu bK dx)
abbrev num (n:Int):Value:=.int .i64 n
abbrev bO:TypeId:=2
abbrev runT:TypeId:=160
structure Lay where
 Fix:Nat→Prop
 M:Ms
 au:Nm→Nm→Option (Nat × Nat)
 pb:Nm→Nat
 bw:Nat
 br:Nat
 ay:List Nat
structure CS (L:Lay):Prop where
 inj : ∀ {q n b k q' n' k'},L.au q n=some (b,k)→L.au q' n'=some (b,k')→q=q'∧n=n'
 arr : ∀ {q n b k},L.au q n=some (b,k)→b∈L.ay∧1≤k∧k≤1000
 ay : ∀ {b},b∈L.ay→¬ L.Fix b∧b < L.br
 fix : ∀ {x},L.Fix x→x < L.br
 there : ∀ {q n b k},L.au q n=some (b,k)→(L.M q).isSome
structure oI (w:World) (Fix:Nat→Prop) (m:Mod) (au:Nm→Option (Nat × Nat)) (bq:Nat):Prop where
 own:Fix bq
 few:fI m
 at_ : ∃ ai ci av cv ap cp ab cb bv es,ag w bq #[str m.name,.slice ai m.imports.length ci,.slice av m.vars.length cv,.slice ap m.procs.length cp,.slice ab m.body.len cb,.map (some bv)] 102 ∧
  gY w Fix m (.agg #[str m.name,.slice ai m.imports.length ci,.slice av m.vars.length cv,.slice ap m.procs.length cp,.slice ab m.body.len cb])∧Fix bv∧aZ w bv es ∧ ∀ n,getM es n=(au n).map fun x=>.slice (some ⟨x.1,0,none⟩) x.2 x.2
theorem oI.kept {Z:List Nat} {w w':World} {Fix:Nat→Prop} {m:Mod} {au:Nm→Option (Nat × Nat)} {bq:Nat} (h:oI w Fix m au bq) (hc:ae Z w w') (hZ : ∀ x∈Z,¬ Fix x):oI w' Fix m au bq:=by
 obtain⟨h1,h2,ai,ci,av,cv,ap,cp,ab,cb,bv,es,h3,h4,h5,h6,h7⟩:=h;exact⟨h1,h2,ai,ci,av,cv,ap,cp,ab,cb,bv,es,h3.kept hc fun hm=>hZ _ hm h1,h4.kept hc hZ,h5,h6.kept hc fun hm=>hZ _ hm h5,h7⟩
structure Stat (w:World) (L:Lay):Prop where
 own:L.Fix L.bw
 at_ : ∃ bp bR ov,ag w L.bw #[.map (some bp),ov] 40∧L.Fix bp∧aZ w bp bR ∧ ∀ q,match L.M q with
  | none=>getM bR q=none
  | some m=>getM bR q=some (ptr (L.pb q))∧oI w L.Fix m (L.au q) (L.pb q)
theorem Stat.kept {Z:List Nat} {w w':World} {L:Lay} (h:Stat w L) (hc:ae Z w w') (hZ : ∀ x∈Z,¬ L.Fix x):Stat w' L:=by
 obtain⟨h1,bp,bR,ov,h2,h3,h4,h5⟩:=h;refine⟨h1,bp,bR,ov,h2.kept hc fun hm=>hZ _ hm h1,h3,h4.kept hc fun hm=>hZ _ hm h3,fun q=>?_⟩;have:=h5 q;cases hq:L.M q with
 | none=>rw [hq] at this;exact this
 | some m=>rw [hq] at this;exact⟨this.1,this.2.kept hc hZ⟩
abbrev ints (l:List Int):List Value:=l.map num
def yL (w:World) (au:Nm→Nm→Option (Nat × Nat)) (vs:Vs):Prop:=∀ q n,match au q n with
 | some (b,k)=>∃ l,vs q n=some l∧l.length=k∧ag w b (ints l).toArray bO
 | none=>vs q n=none
abbrev aL (L:Lay) (ov:Value):List Nat:=L.br :: (blk ov ++ L.ay)
structure Going (w:World) (L:Lay) (d:Nat) (s:St) (ov:Value):Prop where
 lay:CS L
 stat:Stat w L
 run:ag w L.br #[ptr L.bw,num s.fuel,num d,ov] runT
 dyn:yL w L.au s.vs
 oJ : ∀ {b},b∈L.ay → ∃ cs f,w.heap[b]?=some (.cells cs bO f)
 out : w.ownsRow 0 bO 1 ov s.out.length (ints s.out)
 from_:From (L.br + 1) ov
 few : s.out.length≤200
 deep : d≤30
 most : s.fuel≤9223372036854775807
section
variable {w w':World} {L:Lay} {d:Nat} {s:St} {ov aR:Value} {Z:List Nat}
theorem Going.dz (h:Going w L d s ov) : ∀ x∈aL L ov,¬ L.Fix x:=fun x hx hf=>by
 rcases List.mem_cons.1 hx with rfl|hx
 ·have:=h.lay.fix hf;omega
 ·rcases List.mem_append.1 hx with hx|hx
  ·have:=h.from_ x hx;have:=h.lay.fix hf;omega
  ·exact(h.lay.ay hx).1 hf
theorem Going.kind (h:Going w L d s ov) : ∀ x∈aL L ov,x=L.br ∨ ∃ cs f,w.heap[x]?=some (.cells cs bO f):=fun x hx=>by
 rcases List.mem_cons.1 hx with rfl|hx
 ·exact .inl rfl
 ·rcases List.mem_append.1 hx with hx|hx
  ·rcases h.out.2 with⟨rfl,_⟩|⟨g,cap,cur,rfl,_,hg,_⟩
   ·cases hx
   ·simp [blk] at hx;subst hx;exact .inr ⟨_,_,hg⟩
  ·exact .inr (h.oJ hx)
theorem Going.lt (h:Going w L d s ov) : ∀ x∈aL L ov,x < w.heap.size:=fun x hx=>by
 rcases h.kind x hx with rfl|⟨cs,f,hc⟩
 ·exact h.run.lt
 ·exact(Array.getElem?_eq_some_iff.1 hc).1
theorem Going.JM (h:Going w L d s ov) {b:Nat} {es:List (List UInt8 × Value)} (hm:aZ w b es) : b∉aL L ov:=fun hx=>by
 obtain⟨arr,clock,hb,_⟩:=hm;rcases h.kind b hx with rfl|⟨cs,f,hc⟩
 ·have:=h.run;unfold ag at this;rw [hb] at this;cases this
 ·rw [hb] at hc;cases hc
theorem Going.gQ (h:Going w L d s ov) {b:Nat} {cs:Array Value} {t:TypeId} (hb:ag w b cs t) (h1 : t≠bO) (h2 : t≠runT) : b∉aL L ov:=fun hx=>by
 unfold ag at hb
 rcases h.kind b hx with rfl|⟨cs,f,hc⟩
 ·have:=h.run;unfold ag at this;rw [hb] at this;cases this;exact h2 rfl
 ·rw [hb] at hc;cases hc;exact h1 rfl
theorem yL.kept {au:Nm→Nm→Option (Nat × Nat)} {vs:Vs} (h:yL w au vs) (hc:ae Z w w') (hZ : ∀ q n b k,au q n=some (b,k)→b∉Z):yL w' au vs:=fun q n=>by
 have:=h q n;cases hd : au q n with
 | none=>rw [hd] at this;exact this
 | some x=>
  obtain⟨b,k⟩:=x;rw [hd] at this;obtain⟨l,h1,h2,h3⟩:=this;exact⟨l,h1,h2,h3.kept hc (hZ q n b k hd)⟩
theorem Going.kept (h:Going w L d s ov) (hc:ae [] w w'):Going w' L d s ov:=
 ⟨h.lay,h.stat.kept hc (by simp),h.run.kept hc (by simp),h.dyn.kept hc (by simp),fun hb=>by
  obtain⟨cs,f,hh⟩:=h.oJ hb;exact⟨cs,f,by rw [hc.block _ (Array.getElem?_eq_some_iff.1 hh).1 (by simp)];exact hh⟩,cK h.out hc (by simp),h.from_,h.few,h.deep,h.most⟩
theorem lH (hm:dS w ov aR) {b:Nat} (hb : b < w.heap.size) (hn : b∉aL L ov) : b∉aL L aR:=fun hx=>by
 refine hn ?_;rcases List.mem_cons.1 hx with rfl|hx
 ·exact List.mem_cons_self
 ·rcases List.mem_append.1 hx with hx|hx
  ·rcases hm b hx with h|h
   ·exact List.mem_cons_of_mem _ (List.mem_append_left _ h)
   ·omega
  ·exact List.mem_cons_of_mem _ (List.mem_append_right _ hx)
theorem FX {w0:World} (_hc:ae (aL L ov) w0 w) (hm:dS w0 ov aR) : ∀ x∈aL L aR,x∈aL L ov∨w0.heap.size≤x:=fun x hx=>by
 rcases List.mem_cons.1 hx with rfl|hx
 ·exact .inl List.mem_cons_self
 ·rcases List.mem_append.1 hx with hx|hx
  ·rcases hm x hx with h|h
   ·exact .inl (List.mem_cons_of_mem _ (List.mem_append_left _ h))
   ·exact .inr h
  ·exact .inl (List.mem_cons_of_mem _ (List.mem_append_right _ hx))
end
def eG (w:World) (ob:Option Nat) (fr:Fr):Prop:=(ob=none∧fr=[]) ∨ ∃ b,ob=some b∧aZ w b (fr.map fun p=>(p.1,num p.2))
theorem eG.kept {w w':World} {ob:Option Nat} {fr:Fr} {Z:List Nat} (h:eG w ob fr) (hc:ae Z w w') (hZ : ∀ b,ob=some b→b∉Z):eG w' ob fr:=by
 rcases h with h|⟨b,rfl,h2⟩
 ·exact .inl h
 ·exact .inr ⟨b,rfl,h2.kept hc (hZ b rfl)⟩
theorem eG.iC {w:World} {L:Lay} {d:Nat} {s:St} {ov:Value} {ob:Option Nat} {fr:Fr} (h:eG w ob fr) (hg:Going w L d s ov) : ∀ b,ob=some b→b∉aL L ov:=fun b hb=>by
 rcases h with⟨rfl,_⟩|⟨b',rfl,h2⟩
 ·cases hb
 ·cases hb;exact hg.JM h2
theorem Yn (fr:Fr) (n:Nm) : getM (fr.map fun p=>(p.1,num p.2)) n=(eH fr n).map num:=by
 induction fr with
 | nil=>rfl
 | cons p r ih=>
  obtain⟨k,u⟩:=p
  show (if k=n then some (num u) else getM (r.map fun p=>(p.1,num p.2)) n)=_
  rw [eH];split
  ·rfl
  ·exact ih
theorem JN (fr:Fr) (n:Nm) (v:Int) : dB (fr.map fun p=>(p.1,num p.2)) n (num v)=(jX fr n v).map fun p=>(p.1,num p.2):=by
 induction fr with
 | nil=>rfl
 | cons p r ih=>
  obtain⟨k,u⟩:=p
  show (if k=n then (k,num v) :: (r.map fun p=>(p.1,num p.2)) else (k,num u) :: dB (r.map fun p=>(p.1,num p.2)) n (num v))=_
  rw [jX];split
  ·rfl
  ·rw [ih];rfl
def Aw (way:Nat) (e:Ending):Prop:=∃ older:List PanicEntry,older.dropWhile (!·.goexit)=[]∧e = .panicked ({ v:=.iface 162 (.agg #[num way]),recovered:=false } :: older)
def aj {α:Type} (w:World) (L:Lay) (d:Nat) (ov:Value) (X:List Nat) (V:World→α→Ending→Prop) (o:O α) (e:Ending) (w':World):Prop:=
 ∃ aR,dS w ov aR∧ae (X ++ aL L ov) w w'∧match o with
  | .ok a s=>V w' a e∧Going w' L d s aR
  | .stop way s=>Aw way e ∧ ∃ d',Going w' L d' s aR
  | .stuck=>False
def gD (ob:Option Nat) (w':World) (x:Fl × Fr) (e:Ending):Prop:=eG w' ob x.2∧match x.1 with
 | .go=>e = .returned (.tuple #[])
 | .ret n=>e = .panicked [{ v:=.iface 106 (.agg #[num n]),recovered:=false }]
end Go.Mq.Run
namespace Go.Proofs.YtechofppmnnomaaGreatDoor
open Go Go.RowKit Go.Mq Go.Mq.Tree Go.Mq.Run
open Go.Mq.Check (fI cu bK dx)
def jd (g:Nat):Prop:=∀ {L:Lay} {d:Nat} {q:Nm} {fr:Fr} {x:E} {s:St} {w:World} {ov:Value} {ob:Option Nat} {u:Value} {m:Mod},Going w L d s ov→L.M q=some m→eG w ob fr→aY w L.Fix x [u]→bK x→(fns L.M g).e d q fr x s ≠ .stuck →
 Calls Tryz.prog 117 #[ptr L.br,ptr (L.pb q),.map ob,u] w (aj w L d ov [] (fun _ n e=>e = .returned (num n)) ((fns L.M g).e d q fr x s))
def yM (g:Nat):Prop:=∀ {L:Lay} {d:Nat} {q:Nm} {p:aX} {args:List Int} {s:St} {w:World} {ov:Value} {vp vv vb:Value} {a:Option Addr} {c:Nat} {m:Mod},Going w L d s ov→L.M q=some m→eF w L.Fix p.params vp→eF w L.Fix p.vars vv→fT w L.Fix p.body vb→cu p.body→p.body.len≤1000→p.params.length≤1000→p.vars.length≤1000 →
 Row w (fun b=>b∉aL L ov) a (ints args)→args.length≤2000→(fns L.M g).c d q p args s ≠ .stuck →
 Calls Tryz.prog 67 #[ptr L.br,ptr (L.pb q),.agg #[str p.name,num p.pos,.bool p.seen,vp,vv,vb],.slice a args.length c] w (aj w L d ov [] (fun _ n e=>e = .returned (num n)) ((fns L.M g).c d q p args s))
def uM (g:Nat):Prop:=∀ {L:Lay} {d:Nat} {q:Nm} {fr:Fr} {x:S} {s:St} {w:World} {ov:Value} {ob:Option Nat} {v:Value} {m:Mod},Going w L d s ov→L.M q=some m→eG w ob fr→(∀ b,ob=some b→¬ L.Fix b)→fT w L.Fix x v→cu x→x.len≤1000→(fns L.M g).b d q fr x s ≠ .stuck →
 Calls Tryz.prog 43 #[ptr L.br,ptr (L.pb q),.map ob,v] w (aj w L d ov ob.toList (gD ob) ((fns L.M g).b d q fr x s))
end Go.Proofs.YtechofppmnnomaaGreatDoor
namespace Go.Mq.Run
open Go Go.RowKit Go.Mq Go.Mq.Tree
def jY (r:Option Int) (e:Ending):Prop:=match r with
 | some n=>e = .returned (.tuple #[num n,.bool true])
 | none=>e = .returned (.tuple #[num 0,.bool false])
def allMarks:List Nm:=[[43],[45],[42],[100,105,118],[109,111,100],[61],[35],[60],[60,61],[62],[62,61]]
end Go.Mq.Run
namespace Go.Proofs.YtechofppmnnomaaGreatDoor
open Go Go.RowKit Go.Mq Go.Mq.Tree Go.Mq.Run
set_option maxRecDepth 100000
set_option maxHeartbeats 2000000
theorem Ay (way:Nat) (w:World):Calls Tryz.prog 102 #[num way] w (fun e w'=>Aw way e∧w'=w):=by
 go_enter Tryz.func102,Tryz.ntmps102
 go_wp2_with fail;exact⟨rfl,⟨[],rfl,rfl⟩,rfl⟩
theorem qQ (q:Bool) (w:World):Calls Tryz.prog 32 #[.bool q] w (fun e w'=>e = .returned (num (one q))∧w'=w):=by
 cases q with
 | true=>
  go_enter Tryz.func32,Tryz.ntmps32
  go_wp2_with fail;go_ret
  exact⟨rfl,rfl⟩
 | false=>
  go_enter Tryz.func32,Tryz.ntmps32
  go_wp2_with fail;go_ret
  exact⟨rfl,rfl⟩
theorem Yo (a b:Int) (w:World):Calls Tryz.prog 11 #[str [43],num a,num b] w (fun e w'=>jY (both [43] a b) e∧ae [] w w'):=by
 go_enter Tryz.func11,Tryz.ntmps11
 go_wp2_with fail;go_ret2
 exact⟨rfl,ae.refl _ _⟩
theorem Yp (a b:Int) (w:World):Calls Tryz.prog 11 #[str [45],num a,num b] w (fun e w'=>jY (both [45] a b) e∧ae [] w w'):=by
 go_enter Tryz.func11,Tryz.ntmps11
 go_wp2_with fail;go_ret2
 exact⟨rfl,ae.refl _ _⟩
theorem Yq (a b:Int) (w:World):Calls Tryz.prog 11 #[str [42],num a,num b] w (fun e w'=>jY (both [42] a b) e∧ae [] w w'):=by
 go_enter Tryz.func11,Tryz.ntmps11
 go_wp2_with fail;go_ret2
 exact⟨rfl,ae.refl _ _⟩
theorem Yr (a b:Int) (w:World):Calls Tryz.prog 11 #[str [61],num a,num b] w (fun e w'=>jY (both [61] a b) e∧ae [] w w'):=by
 have HO:=zh (qQ (a == b) w)
 go_enter Tryz.func11,Tryz.ntmps11
 go_wp2_with fail;refine HO.out.mono ?_;rintro _ _ ⟨rfl,hw⟩;have hw:=hw.symm;subst hw;go_wp2_with fail;go_ret2
 exact⟨rfl,ae.refl _ _⟩
theorem Yt (a b:Int) (w:World):Calls Tryz.prog 11 #[str [35],num a,num b] w (fun e w'=>jY (both [35] a b) e∧ae [] w w'):=by
 have HO:=zh (qQ (a != b) w)
 go_enter Tryz.func11,Tryz.ntmps11
 go_wp2_with fail;refine HO.out.mono ?_;rintro _ _ ⟨rfl,hw⟩;have hw:=hw.symm;subst hw;go_wp2_with fail;go_ret2
 exact⟨rfl,ae.refl _ _⟩
theorem Yu (a b:Int) (w:World):Calls Tryz.prog 11 #[str [60],num a,num b] w (fun e w'=>jY (both [60] a b) e∧ae [] w w'):=by
 have HO:=zh (qQ (decide (a < b)) w)
 go_enter Tryz.func11,Tryz.ntmps11
 go_wp2_with fail;refine HO.out.mono ?_;rintro _ _ ⟨rfl,hw⟩;have hw:=hw.symm;subst hw;go_wp2_with fail;go_ret2
 exact⟨rfl,ae.refl _ _⟩
theorem Yv (a b:Int) (w:World):Calls Tryz.prog 11 #[str [60,61],num a,num b] w (fun e w'=>jY (both [60,61] a b) e∧ae [] w w'):=by
 have HO:=zh (qQ (decide (a≤b)) w)
 go_enter Tryz.func11,Tryz.ntmps11
 go_wp2_with fail;refine HO.out.mono ?_;rintro _ _ ⟨rfl,hw⟩;have hw:=hw.symm;subst hw;go_wp2_with fail;go_ret2
 exact⟨rfl,ae.refl _ _⟩
theorem Yw (a b:Int) (w:World):Calls Tryz.prog 11 #[str [62],num a,num b] w (fun e w'=>jY (both [62] a b) e∧ae [] w w'):=by
 have HO:=zh (qQ (decide (b < a)) w)
 go_enter Tryz.func11,Tryz.ntmps11
 go_wp2_with fail;refine HO.out.mono ?_;rintro _ _ ⟨rfl,hw⟩;have hw:=hw.symm;subst hw;go_wp2_with fail;go_ret2
 exact⟨rfl,ae.refl _ _⟩
theorem Yx (a b:Int) (w:World):Calls Tryz.prog 11 #[str [62,61],num a,num b] w (fun e w'=>jY (both [62,61] a b) e∧ae [] w w'):=by
 have HO:=zh (qQ (decide (b≤a)) w)
 go_enter Tryz.func11,Tryz.ntmps11
 go_wp2_with fail;refine HO.out.mono ?_;rintro _ _ ⟨rfl,hw⟩;have hw:=hw.symm;subst hw;go_wp2_with fail;go_ret2
 exact⟨rfl,ae.refl _ _⟩
theorem Yy (op:Nm) (hop : op∉allMarks) (a b:Int) (w:World):Calls Tryz.prog 11 #[str op,num a,num b] w (fun e w'=>jY (some 0) e∧ae [] w w'):=by
 simp only [allMarks,List.mem_cons,List.not_mem_nil,or_false,not_or] at hop;obtain⟨h0,h1,h2,h3,h4,h5,h6,h7,h8,h9,h10⟩:=hop;have HO:=zh (qQ false w);have k0 : (op == [43])=false:=by simpa using h0
 have k1 : (op == [45])=false:=by simpa using h1
 have k2 : (op == [42])=false:=by simpa using h2
 have k3 : (op == [100,105,118])=false:=by simpa using h3
 have k4 : (op == [109,111,100])=false:=by simpa using h4
 have k5 : (op == [61])=false:=by simpa using h5
 have k6 : (op == [35])=false:=by simpa using h6
 have k7 : (op == [60])=false:=by simpa using h7
 have k8 : (op == [60,61])=false:=by simpa using h8
 have k9 : (op == [62])=false:=by simpa using h9
 have k10 : (op == [62,61])=false:=by simpa using h10
 clear h0 h1 h2 h3 h4 h5 h6 h7 h8 h9 h10
 go_enter Tryz.func11,Tryz.ntmps11
 go_wp2_with fail;refine HO.out.mono ?_;rintro _ _ ⟨rfl,hw⟩;have hw:=hw.symm;subst hw;go_wp2_with fail;go_ret2
 exact⟨rfl,ae.refl _ _⟩
theorem Yz (a b:Int) (w:World):Calls Tryz.prog 11 #[str [100,105,118],num a,num b] w (fun e w'=>jY (both [100,105,118] a b) e∧ae [] w w'):=by
 by_cases hb : b=0
 ·subst hb
  go_enter Tryz.func11,Tryz.ntmps11
  go_wp2_with fail;go_ret2
  exact⟨rfl,ae.refl _ _⟩
 ·have hb1 : (b == 0)=false:=by simpa using hb
  cases hr : (a.tmod b != 0) with
  | false=>
   go_enter Tryz.func11,Tryz.ntmps11
   go_wp2_with fail
   go_region
   all_goals (try go_wp2_with fail)
   go_ret2
   refine⟨?_,(ae.refl [] w).drew⟩;simp [jY,both,hb,hr]
  | true=>
   cases hs : (!(decide (a.tmod b < 0) == decide (b < 0))) with
   | false=>
    go_enter Tryz.func11,Tryz.ntmps11
    go_wp2_with fail
    go_region
    all_goals (try go_wp2_with fail)
    go_ret2
    refine⟨?_,(ae.refl [] w).drew⟩;simp [jY,both,hb,hr,hs]
   | true=>
    go_enter Tryz.func11,Tryz.ntmps11
    go_wp2_with fail
    go_region
    all_goals (try go_wp2_with fail)
    go_ret2
    refine⟨?_,(ae.refl [] w).drew⟩;simp [jY,both,hb,hr,hs]
theorem YA (a b:Int) (w:World):Calls Tryz.prog 11 #[str [109,111,100],num a,num b] w (fun e w'=>jY (both [109,111,100] a b) e∧ae [] w w'):=by
 by_cases hb : b=0
 ·subst hb
  go_enter Tryz.func11,Tryz.ntmps11
  go_wp2_with fail;go_ret2
  exact⟨rfl,ae.refl _ _⟩
 ·have hb1 : (b == 0)=false:=by simpa using hb
  cases hr : (a.tmod b != 0) with
  | false=>
   go_enter Tryz.func11,Tryz.ntmps11
   go_wp2_with fail
   go_region
   all_goals (try go_wp2_with fail)
   go_ret2
   refine⟨?_,(ae.refl [] w).drew⟩;simp [jY,both,hb,hr]
  | true=>
   cases hs : (!(decide (a.tmod b < 0) == decide (b < 0))) with
   | false=>
    go_enter Tryz.func11,Tryz.ntmps11
    go_wp2_with fail
    go_region
    all_goals (try go_wp2_with fail)
    go_ret2
    refine⟨?_,(ae.refl [] w).drew⟩;simp [jY,both,hb,hr,hs]
   | true=>
    go_enter Tryz.func11,Tryz.ntmps11
    go_wp2_with fail
    go_region
    all_goals (try go_wp2_with fail)
    go_ret2
    refine⟨?_,(ae.refl [] w).drew⟩;simp [jY,both,hb,hr,hs]
end Go.Proofs.YtechofppmnnomaaGreatDoor
