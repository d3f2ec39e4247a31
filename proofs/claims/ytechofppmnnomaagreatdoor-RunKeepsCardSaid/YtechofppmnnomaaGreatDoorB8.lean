/- Some texts in one. -/
import Derived.Test.YtechofppmnnomaaGreatDoorB5
import Derived.Test.YtechofppmnnomaaGreatDoorB6
import Derived.Test.YtechofppmnnomaaGreatDoorB7
namespace Go.Proofs.YtechofppmnnomaaGreatDoor
open Go Go.RowKit Go.Mq Go.Mq.Tree
set_option maxRecDepth 100000
set_option maxHeartbeats 2000000
def ym (t:List UInt8) (e:Ending):Prop:=match Lib.parseIntB 64 t with
 | .ok v=>e = .returned (.tuple #[.int .i64 v,.nilIface])
 | _=>∃ n T b,e = .returned (.tuple #[.int .i64 n,.iface T (.pointer (some ⟨b,0,none⟩))])
theorem agK (t:List UInt8) (w:World) (B:Nat) (hL:Laid w B) (ht : t.length≤1099511627776) :
  Calls Tryz.prog 134 #[str t,.int .i64 10,.int .i64 64] w (fun e w'=>ae [] w w'∧ym t e):=by
 have hd : (bs t).data.toList=t:=rfl;have hz : (bs t).size=t.length:=rfl
 unfold ym
 rcases hp:Lib.parseIntB 64 t with v|_|_
 ·skip
  refine(Any.strconv_ParseInt_10_at64_ok Tryz.Nw (bs t) (by omega) v (by rw [hd];exact hp) w).mono ?_;rintro e w' ⟨rfl,rfl|⟨s,rfl⟩⟩
  ·exact⟨ae.refl _ _,rfl⟩
  ·exact⟨ae.of_below (Lib.bytesWorld_below _ _ _),rfl⟩
 ·skip
  obtain⟨ev,h1,h2⟩:=hL.Og;refine(Any.strconv_ParseInt_10_at64_syntax Tryz.Nw (bs t) (by omega) (by rw [hd];exact hp) ev w h1 h2).mono ?_;rintro e w' ⟨N,rfl,_,_,hb⟩;exact⟨ae.of_below hb,_,_,_,rfl⟩
 ·skip
  obtain⟨ev,h1,h2⟩:=hL.range;refine(Any.strconv_ParseInt_10_at64_range Tryz.Nw (bs t) (by omega) (by rw [hd];exact hp) ev w h1 h2).mono ?_;rintro e w' ⟨N,rfl,_,_,hb⟩;exact⟨ae.of_below hb,_,_,_,rfl⟩
theorem VE (most:Int) (w:World) (B bp bt z:Nat) (ts:List Tok) (h:bQ w B bp bt z ts) :
  Calls Tryz.prog 110 #[ptr bp,.int .i64 most] w (eP w B bp bt z (number z most ts) (fun _ n v=>v = .int .i64 n)):=by
 have H:=zh h;cases ts with
 | nil=>
  obtain⟨off,c,c0,c1,c2,hl⟩:=yB h;have c1' : w.cell? ⟨bt,off + 1,none⟩=some (str []):=by
   obtain⟨off',c',hb',hl',hc'⟩:=h.at_;have e:=(hb'.cell 0 _ rfl).symm.trans c0;simp at e
   rw [← e.1];exact hc' 1 _ rfl
  clear h
  go_enter Tryz.func110,Tryz.ntmps110
  go_wp2_with fail;have hc:=(ae.refl [bp] w).alloc (.cells #[.int .i64 4,str [],.int .i64 z] 91);refine(lF 3 _ B bp bt z [] (H.out.kept ((ae.refl [] w).alloc _) (by simp) (by simp) (by simp))).mono ?_;intro e w2 he;have HE:=zh he;obtain⟨b,rfl⟩:=he.thrown;have HC:=zh hc;clear hc he;go_wp2_with fail;exact⟨rfl,HE.out.eO HC.out⟩
 | cons t r=>
  obtain⟨off,c,hb,c0,c1,c2,c3,hl,hcs⟩:=uJ h;have hf:=hb.frozen 0;have hP:=h.kept ((ae.refl [] w).alloc (.cells #[.int .i64 t.kind.num,str t.text,.int .i64 t.pos] 91)) (by simp) (by simp) (by simp);have HP:=zh hP;have hne:=h.ne;have hbp : bp < w.heap.size:=hb.lt;have HB:=zh (And.intro hb hl);have HI:=zh (agK t.text _ B hP.laid (h.short t (by simp)));have HS:=zh hcs;clear hb hl hcs hP;cases hkd : decide (t.kind = .number) with
  | false=>
   have hk : ((t.kind.num:Int) != 2)=true:=by cases hq : t.kind <;> simp_all [Kind.num]
   have HR:=zh (show number z most (t :: r) = .bad 3 t.pos by rw [number,if_pos (of_decide_eq_false hkd)]);clear h hkd
   go_enter Tryz.func110,Tryz.ntmps110
   go_wp2_with fail;refine(lF 3 _ B bp bt z (t :: r) HP.out).mono ?_;intro e w2 he;have HE:=zh he;obtain⟨b,rfl⟩:=he.thrown;clear he;go_wp2_with fail;refine⟨rfl,?_⟩;rw [HR.out];exact HE.out.eO ((ae.refl _ _).alloc _)
  | true=>
   have hk : ((t.kind.num:Int) != 2)=false:=by cases hq : t.kind <;> simp_all [Kind.num]
   have HW:=zh (of_decide_eq_true hkd);clear h hkd;rcases hpi:Lib.parseIntB 64 t.text with v|_|_
   ·skip
    have HV:Hid (∀ e,ym t.text e→e = .returned (.tuple #[.int .i64 v,.nilIface])):=zh (fun e he=>by rw [ym,hpi] at he;exact he);cases VF : decide (most < v) with
    | true=>
     have HR:=zh (show number z most (t :: r) = .bad 4 t.pos by rw [number,if_neg (by simp [HW.out]),hpi];exact if_pos (of_decide_eq_true VF));clear hpi
     go_enter Tryz.func110,Tryz.ntmps110
     go_wp2_with fail;refine HI.out.mono ?_;intro e w1 he;obtain rfl:=HV.out e he.2;have HC:=zh he.1;clear he;go_wp2_with fail;refine(lF 4 _ B bp bt z (t :: r) (HP.out.kept HC.out (by simp) (by simp) (by simp))).mono ?_;intro e w2 he;have HE:=zh he;obtain⟨b,rfl⟩:=he.thrown;clear he;go_wp2_with fail;refine⟨rfl,?_⟩;rw [HR.out];exact HE.out.eO (((ae.refl [bp] w).alloc _).then HC.out.weak)
    | false=>
     have HR:=zh (show number z most (t :: r) = .ok v r by rw [number,if_neg (by simp [HW.out]),hpi];exact if_neg (of_decide_eq_false VF));have hl:=HB.out.2;clear hpi
     go_enter Tryz.func110,Tryz.ntmps110
     go_wp2_with fail;refine HI.out.mono ?_;intro e w1 he;obtain rfl:=HV.out e he.2;obtain⟨d0,d1,d2,hc0⟩:=Nv he.1;clear he;have hb1:=HB.out.1.kept hc0 (by simp);have e0:=hb1.cell 0 _ rfl;have ef:=hb1.frozen 0;have hp1:=H.out.kept hc0 (by simp) (by simp) (by simp);have HT1:=zh (IX hp1 hb1 HB.out.2 (fun i v hi=>hc0.aH (HS.out i v hi) (by simp)));have aF:=zh hc0;clear hc0 hp1 hb1;go_wp2_with fail;go_ret
     rw [HR.out];exact⟨aF.out.weak.then HT1.out.2,_,rfl,rfl,HT1.out.1⟩
   ·skip
    have HV:Hid (∀ e,ym t.text e → ∃ n T b,e = .returned (.tuple #[.int .i64 n,.iface T (.pointer (some ⟨b,0,none⟩))])):=zh (fun e he=>by rw [ym,hpi] at he;exact he);have HR:=zh (show number z most (t :: r) = .bad 4 t.pos by rw [number,if_neg (by simp [HW.out]),hpi]);clear hpi
    go_enter Tryz.func110,Tryz.ntmps110
    go_wp2_with fail;refine HI.out.mono ?_;intro e w1 he;obtain⟨nn,T,bb,rfl⟩:=HV.out e he.2;have HC:=zh he.1;clear he;go_wp2_with fail;refine(lF 4 _ B bp bt z (t :: r) (HP.out.kept HC.out (by simp) (by simp) (by simp))).mono ?_;intro e w2 he;have HE:=zh he;obtain⟨b,rfl⟩:=he.thrown;clear he;go_wp2_with fail;refine⟨rfl,?_⟩;rw [HR.out];exact HE.out.eO (((ae.refl [bp] w).alloc _).then HC.out.weak)
   ·skip
    have HV:Hid (∀ e,ym t.text e → ∃ n T b,e = .returned (.tuple #[.int .i64 n,.iface T (.pointer (some ⟨b,0,none⟩))])):=zh (fun e he=>by rw [ym,hpi] at he;exact he);have HR:=zh (show number z most (t :: r) = .bad 4 t.pos by rw [number,if_neg (by simp [HW.out]),hpi]);clear hpi
    go_enter Tryz.func110,Tryz.ntmps110
    go_wp2_with fail;refine HI.out.mono ?_;intro e w1 he;obtain⟨nn,T,bb,rfl⟩:=HV.out e he.2;have HC:=zh he.1;clear he;go_wp2_with fail;refine(lF 4 _ B bp bt z (t :: r) (HP.out.kept HC.out (by simp) (by simp) (by simp))).mono ?_;intro e w2 he;have HE:=zh he;obtain⟨b,rfl⟩:=he.thrown;clear he;go_wp2_with fail;refine⟨rfl,?_⟩;rw [HR.out];exact HE.out.eO (((ae.refl [bp] w).alloc _).then HC.out.weak)
end Go.Proofs.YtechofppmnnomaaGreatDoor
namespace Go.Mq.Tree
open Go Go.RowKit Go.Mq
theorem Ny {z:Nat} {ts r:List Tok} {n:List UInt8} (h : name z ts = .ok n r) : r.length + 1=ts.length:=by
 cases ts with
 | nil=>cases h
 | cons t l=>
  rw [name] at h;split at h
  ·cases h
  ·split at h
   ·cases h
   ·cases h;rfl
theorem sP {s:List UInt8} {ts:List Tok} (h : see s ts=true) : ts.tail.length + 1=ts.length:=by
 cases ts with
 | nil=>cases h
 | cons t r=>rfl
theorem agL (s:List UInt8) (ts:List Tok) : (skip s ts).length≤ts.length:=by
 unfold skip;split <;> simp
theorem bQ.ru {w:World} {B bp bt z:Nat} {ts:List Tok} (h:bQ w B bp bt z ts) : bp < w.heap.size:=by
 obtain⟨off,c,hb,_⟩:=h.at_;exact hb.lt
theorem bQ.vT {w:World} {B bp bt z:Nat} {ts:List Tok} (h:bQ w B bp bt z ts) : bt < w.heap.size:=by
 obtain⟨off,c,_,_,hc⟩:=h.at_;cases ts with
 | nil=>exact lt_of_cell (hc 0 _ rfl)
 | cons t r=>exact lt_of_cell (hc 0 _ rfl)
theorem grow_step {w wr w2 w':World} {B bp bt z:Nat} {r:List Tok} {v v':Value} {o:Obj} (hB:B≤w.heap.size) (hbp : bp < w.heap.size) (hbt : bt < w.heap.size)
  (hC:ae [bp] w wr) (hN:ae [bp] wr w2) (hP:bQ w2 B bp bt z r) (hF:From w.heap.size v) (hch:ae (blk v) (w2.alloc o) w') (hm:dS (w2.alloc o) v v') :
  bQ w' B bp bt z r∧ae [bp] w w'∧From w.heap.size v':=by
 have hs:=(hC.then hN).size;refine⟨(hP.kept ((ae.refl [] w2).alloc o) (by simp) (by simp) (by simp)).kept hch (fun x hx=>Nat.le_trans hB (hF x hx)) (fun hm=>by have:=hF _ hm;omega) (fun hm=>by have:=hF _ hm;omega),?_,hF.moved hm (by simp;omega)⟩;exact((hC.then hN).alloc o).trans hch (fun x hx=>.inr (hF x hx))
def lenOf:Value→Nat
 | .slice _ n _=>n
 | _=>0
theorem IY {w:World} {e:TypeId} {size n:Nat} {v:Value} {xs:List Value} (h : w.ownsRow 0 e size v n xs) : lenOf v=n:=by
 rcases h.2 with⟨rfl,rfl⟩|⟨g,cap,cur,rfl,_⟩ <;> rfl
theorem gu {w:World} {e:TypeId} {size n:Nat} {v:Value} {xs:List Value} (h : w.ownsRow 0 e size v n xs) : ∃ a c,v = .slice a n c:=by
 rcases h.2 with⟨rfl,rfl⟩|⟨g,cap,cur,rfl,_⟩
 ·exact⟨_,_,rfl⟩
 ·exact⟨_,_,rfl⟩
theorem Am {w w':World} {e:TypeId} {size n:Nat} {v:Value} {xs:List Value} (h : w'.ownsRow 0 e size v n xs) (hF:From w.heap.size v) : ∀ g∈blk v,New w w' g:=fun g hg=>⟨hF g hg,pM h g hg⟩
end Go.Mq.Tree
namespace Go.Proofs.YtechofppmnnomaaGreatDoor
open Go Go.RowKit Go.Mq Go.Mq.Tree
set_option maxRecDepth 100000
set_option maxHeartbeats 4000000
theorem agM : (Tryz.prog.info? 9).map (fun i=>(i.zero,i.size,i.bytes))=some (some (.string ⟨#[]⟩),1,16):=by kernel_rfl
theorem Nz (most:Nat) (aiZ : most≤1000) (w:World) (B bp bt z:Nat) (ts:List Tok) (h:bQ w B bp bt z ts) :
  Calls Tryz.prog 72 #[ptr bp,.int .i64 most] w (eP w B bp bt z (names z most ts) (fun w' l v=>eF w' (New w w') l v)):=by
 have H:=zh h;have hB:=h.laid.le;have hbp:=h.ru;have hbt:=h.vT;clear h
 go_enter Tryz.func72,Tryz.ntmps72
 go_wp2_with fail
 go_loopw [5,6] (fun l m wr=>∃ (f:Nat) (b:Bool) (acc:List (List UInt8)) (ts':List Tok),m = .bool b∧names z most ts=(if b then rA z most f acc ts' else .ok acc ts')∧(b=true→f + acc.length=most + 1)∧acc.length≤most∧acc.length + ts'.length≤600 ∧
   bQ wr B bp bt z ts'∧wr.ownsRow 0 9 1 l acc.length (acc.map str)∧From w.heap.size l∧ae [bp] w wr) (fun l _ _=>most + 1 - lenOf l)
 case atStart=>exact⟨most + 1,true,[],ts,rfl,rfl,fun _=>rfl,Nat.zero_le _,by simpa using H.out.few,H.out,World.ownsRow_nil _ _ _ _,From.nil _,ae.refl _ _⟩
 case round=>
  obtain⟨f,b,acc,ts',rfl,hr,hf,ha,hlen,hp,ho,hF,hC⟩:=hrel;have HR:=zh hr;have HP:=zh hp;have HO:=zh ho;have HF:=zh hF;have HC:=zh hC;obtain⟨sa,sc,hs⟩:=gu ho;clear hr hp ho hF hC;cases b with
  | false=>
   clear hf;go_wp2_with fail;go_ret
   rw [HR.out];refine⟨HC.out,_,rfl,?_,HP.out⟩;obtain⟨a,c,rfl,hac,hrow⟩:=Row.jF (HO.out) (Am HO.out HF.out);exact⟨a,c,by simp,by simpa using hac,hrow⟩
  | true=>
   have hf:=hf rfl;subst hs;obtain⟨f,rfl⟩ : ∃ f',f=f' + 1:=⟨f - 1,by omega⟩
   cases he : decide (acc.length=most) with
   | true=>
    have he1 : ((acc.length:Int) == (most:Int))=true:=by have:=of_decide_eq_true he;simp [this]
    have HRR:=zh (show names z most ts = .bad 4 (hd z ts') by rw [HR.out,if_pos rfl,rA,if_pos (of_decide_eq_true he)]);clear he;go_wp2_with fail;refine(lF 4 _ B bp bt z ts' HP.out).mono ?_;intro e w2 he;have HE:=zh he;obtain⟨b,rfl⟩:=he.thrown;clear he;go_wp2_with fail;refine⟨rfl,?_⟩;rw [HRR.out];exact HE.out.eO HC.out
   | false=>
    have he1 : ((acc.length:Int) == (most:Int))=false:=by have:=of_decide_eq_false he;simp;omega
    have hne:=of_decide_eq_false he;have HN:=zh (BU _ B bp bt z ts' HP.out);clear he;cases hn : name z ts' with
    | bad en p=>
     have HRR:=zh (show names z most ts = .bad en p by rw [HR.out,if_pos rfl,rA,if_neg hne,hn]);rw [hn] at HN;clear hn hne;go_wp2_with fail;refine HN.out.mono ?_;intro e w2 he;have HE:=zh he;obtain⟨b,rfl⟩:=he.thrown;clear he;go_wp2_with fail;refine⟨rfl,?_⟩;rw [HRR.out];exact HE.out.eO HC.out
    | ok n r=>
     have hnl:=Ny hn;have ha1 : acc.length + 1≤most:=by omega
     have HRR:=zh (show names z most ts=if see [44] r then rA z most f (acc ++ [n]) r.tail else .ok (acc ++ [n]) r by rw [HR.out,if_pos rfl,rA,if_neg hne,hn]);rw [hn] at HN;clear hn hne;go_wp2_with fail;refine HN.out.mono ?_;rintro e w2 ⟨hc2,_,rfl,rfl,hp2⟩;have aD:=zh hc2;have Ab:=zh hp2;have ho2:=cK HO.out ((hc2.alloc (.cells #[str n] 9))) (fun g hg hm=>by have:=HF.out g hg;simp at hm;omega);have uH:=zh ho2;clear hc2 hp2 ho2;go_wp2_with (at_builtin;go_must (refine pO rfl _ _ 27 rfl 9 _ 1 16 agM Tryz.underlying27 rfl (by decide) _ _ _ rfl uH.out ⟨w2.heap.size,0,none⟩ 1 1 [_] rfl rfl (Aj _ _ _) (by simp [Value.oneCell']) ?_ ?_ ?_))
     ·omega
     ·unfold maxLen;omega
     ·intro v' w' hown' hch' bX
      have iQ:=zh hown';clear hown';obtain⟨hp3,hc3,hf3⟩:=grow_step hB hbp hbt HC.out aD.out Ab.out HF.out hch' bX;have qx:=zh hp3;have bG:=zh hc3;have pY:=zh hf3;clear hch' bX hp3 hc3 hf3;go_wp2_with fail;refine(kQ [44] _ B bp bt z r qx.out).mono ?_;rintro e w4 ⟨rfl,gz,hc4,_⟩;have og:=zh gz;have cz:=zh hc4;clear gz hc4;go_wp2_with fail;have pg:=cK iQ.out cz.out (fun g hg hm=>by have:=pY.out g hg;simp at hm;omega);have hl4 : lenOf v'=acc.length + 1:=IY iQ.out;have hsk : (skip [44] r).length≤r.length:=agL _ _;refine⟨⟨f,see [44] r,acc ++ [n],skip [44] r,rfl,?_,fun _=>by simp;omega,by simp;omega,by simp;omega,og.out,by simpa using pg,pY.out,bG.out.then cz.out⟩,?_⟩
      ·rw [HRR.out];unfold skip;split <;> rfl
      ·rw [hl4];simp only [lenOf];omega
end Go.Proofs.YtechofppmnnomaaGreatDoor
namespace Go.Proofs.YtechofppmnnomaaGreatDoor
open Go Go.RowKit Go.Mq Go.Mq.Tree
set_option maxRecDepth 100000
set_option maxHeartbeats 4000000
theorem VG (k:Nat) (lv:List (List UInt8)) (hk : levels[k]?=some lv) (w:World) (B bp bt z:Nat) (ts:List Tok) (h:bQ w B bp bt z ts) :
  Calls Tryz.prog 163 #[ptr bp,.int .i64 k] w (fun e w'=>e = .returned (str ((rC lv ts).getD []))∧w'=w):=by
 have H:=zh h;obtain⟨b,off,c,c0,_,hc,hcell⟩:=h.laid.levels k lv hk;have hk5 : k < 5:=(List.getElem?_eq_some_iff.1 hk).1;have hlv : lv.length≤6:=by
  have : ∀ l∈levels,l.length≤6:=by decide
  exact this lv (List.mem_of_getElem? hk)
 have fJ:=zh hcell;clear h hcell hk
 go_enter Tryz.func163,Tryz.ntmps163
 go_wp2_with fail
 go_loopw [6,11] (fun _ i wr=>∃ n:Nat,n≤lv.length∧i = .int .i64 n∧wr=w∧rC lv ts=(lv.drop n).find? (fun m=>see m ts)) (fun _ i _=>10 - (intOf i).toNat)
 case atStart=>exact⟨0,Nat.zero_le _,rfl,rfl,rfl⟩
 case round=>
  obtain⟨n,hn,rfl,rfl,hr⟩:=hrel;have HR:=zh hr;clear hr;by_cases hlt : n < lv.length
  ·have hm : lv[n]?=some lv[n]:=List.getElem?_eq_getElem hlt
   have hcl:=fJ.out n _ hm;have HS:=zh (yl lv[n] wr B bp bt z ts H.out);cases hs : see lv[n] ts with
   | true=>
    have HRR:=zh (show rC lv ts=some lv[n] by rw [HR.out,List.drop_eq_getElem_cons hlt,List.find?_cons,hs]);have HI:=zh hs;clear hs;go_wp2_with fail;refine HS.out.mono ?_;rintro _ w2 ⟨rfl,rfl⟩;rw [HI.out];go_wp2_with fail;go_ret
    rw [HRR.out];exact⟨rfl,rfl⟩
   | false=>
    have HRR:=zh (show rC lv ts=(lv.drop (n + 1)).find? (fun m=>see m ts) by rw [HR.out,List.drop_eq_getElem_cons hlt,List.find?_cons,hs]);have HI:=zh hs;clear hs;go_wp2_with fail;refine HS.out.mono ?_;rintro _ w2 ⟨rfl,rfl⟩;rw [HI.out];go_wp2_with fail;exact⟨⟨n + 1,by omega,by go_num,by first|rfl|trivial,HRR.out⟩,by simp [intOf];omega⟩
  ·have hge : n=lv.length:=by omega
   have HRR:=zh (show rC lv ts=none by rw [HR.out,hge,List.drop_length];rfl);go_wp2_with fail;go_ret
   rw [HRR.out];exact⟨rfl,rfl⟩
end Go.Proofs.YtechofppmnnomaaGreatDoor
namespace Go.Mq.Tree
open Go Go.RowKit Go.Mq
def aN {α:Type} (p:Ps α):Prop:=∀ ts a r,p ts = .ok a r→r.length≤ts.length
def pI {α:Type} (p:Ps α):Prop:=∀ ts a r,p ts = .ok a r→r.length < ts.length
theorem pI.mono {α:Type} {p:Ps α} (h:pI p):aN p:=fun ts a r hr=>Nat.le_of_lt (h ts a r hr)
theorem VH {lv:List (List UInt8)} {ts:List Tok} {m:List UInt8} (h : rC lv ts=some m) : see m ts=true:=by
 have:=List.find?_some h
 simpa using this
theorem VI {sub:Ps E} (hs:aN sub) (lv:List (List UInt8)) (p:Nat) : ∀ f x,aN (oq sub lv p f x):=by
 intro f
 induction f with
 | zero=>intro x ts a r h;cases h
 | succ f ih=>
  intro x ts a r h;rw [oq] at h;cases ho : rC lv ts with
  | none=>rw [ho] at h;cases h;exact Nat.le_refl _
  | some m=>
   rw [ho] at h;have:=sP (VH ho);cases hsub : sub ts.tail with
   | bad e q=>rw [hsub] at h;cases h
   | ok y r2=>
    rw [hsub] at h;have h1:=hs _ _ _ hsub;have h2:=ih _ _ _ _ h;omega
theorem agN {z:Nat} {base:Ps E} (hb:aN base) : ∀ k,aN (expr z base k):=by
 intro k
 induction k with
 | zero=>exact hb
 | succ k ih=>
  intro ts a r h;rw [expr] at h;simp only at h;cases hx : expr z base k ts with
  | bad e q=>rw [hx] at h;cases h
  | ok x r2=>
   rw [hx] at h;have h1:=ih _ _ _ hx;have h2:=VI ih _ _ _ _ _ _ _ h;omega
theorem BV {z:Nat} {base:Ps E} (hb:pI base) : ∀ k,pI (expr z base k):=by
 intro k
 induction k with
 | zero=>exact hb
 | succ k ih=>
  intro ts a r h;rw [expr] at h;simp only at h;cases hx : expr z base k ts with
  | bad e q=>rw [hx] at h;cases h
  | ok x r2=>
   rw [hx] at h;have h1:=ih _ _ _ hx;have h2:=VI ih.mono _ _ _ _ _ _ _ h;omega
def mf (sub:Ps E) (lv:List (List UInt8)) (z:Nat):Ps E:=fun ts=>match sub ts with
 | .bad e p=>.bad e p
 | .ok x r=>oq sub lv (hd z ts) (r.length + 1) x r
def E8 (w:World) (bp:Nat):Nat:=match w.cell? ⟨bp,0,none⟩ with
 | some v=>lenOf v
 | none=>0
theorem bQ.cnt {w:World} {B bp bt z:Nat} {ts:List Tok} (h:bQ w B bp bt z ts) : E8 w bp=ts.length + 1:=by
 obtain⟨off,c,hb,_⟩:=h.at_;rw [E8,hb.cell 0 _ rfl]
 rfl
abbrev EV (w:World):World→E→Value→Prop:=fun w' e v=>aY w' (New w w') e [v]
theorem aY.grown {w w1 w2:World} {bp:Nat} {e:E} {us:List Value} (h:aY w1 (New w w1) e us) (hbp : bp < w.heap.size) (hc:ae [bp] w1 w2):aY w2 (New w w2) e us:=
 (h.kept hc (fun x hx hn=>by simp at hx;have:=hn.1;omega)).mono fun x hx=>⟨hx.1,by have:=hc.size;have:=hx.2;omega⟩
theorem aY.later {w w0 w1:World} {e:E} {us:List Value} (h:aY w1 (New w0 w1) e us) (hs : w.heap.size≤w0.heap.size):aY w1 (New w w1) e us:=h.mono fun _ hx=>⟨Nat.le_trans hs hx.1,hx.2⟩
theorem aY.ptr {w:World} {F:Nat→Prop} {e:E} : ∀ {v:Value},aY w F e [v] → ∃ b,v=ptr b:=by
 induction e with
 | num p n=>rintro v ⟨b,h1,_⟩;cases h1;exact⟨b,rfl⟩
 | var p m n=>rintro v ⟨b,h1,_⟩;cases h1;exact⟨b,rfl⟩
 | item p m n i ih=>rintro v ⟨b,u,h1,_⟩;cases h1;exact⟨b,rfl⟩
 | un p op x ih=>rintro v ⟨b,u,h1,_⟩;cases h1;exact⟨b,rfl⟩
 | bin p op x y ih1 ih2=>rintro v ⟨b,u,v',h1,_⟩;cases h1;exact⟨b,rfl⟩
 | app p m n l ih=>rintro v ⟨b,a,c,vs,h1,_⟩;cases h1;exact⟨b,rfl⟩
 | nil=>intro v h;cases h
 | cons x r ih1 ih2=>rintro v ⟨u,vs,h1,h2,h3⟩;cases h1;exact ih1 h2
end Go.Mq.Tree
namespace Go.Proofs.YtechofppmnnomaaGreatDoor
open Go Go.RowKit Go.Mq Go.Mq.Tree
set_option maxRecDepth 100000
set_option maxHeartbeats 4000000
def BX (deep d:Nat):Prop:=∀ (w:World) (B bp bt z:Nat) (ts:List Tok),bQ w B bp bt z ts→Calls Tryz.prog 162 #[ptr bp,.int .i64 deep] w (eP w B bp bt z (one z d ts) (EV w))
def uD (level deep:Nat) (ex:Nat→Ps E):Prop:=∀ (w:World) (B bp bt z:Nat) (ts:List Tok),bQ w B bp bt z ts→Calls Tryz.prog 136 #[ptr bp,.int .i64 level,.int .i64 deep] w (eP w B bp bt z (ex z ts) (EV w))
theorem agO {lv:List (List UInt8)} {m:List UInt8} {k:Nat} (h : levels[k]?=some lv) (hm : m∈lv) : m≠[]:=by
 have : ∀ l∈levels,∀ m∈l,m≠[]:=by decide
 exact this lv (List.mem_of_getElem? h) m hm
theorem agP (deep d:Nat) (hO:BX deep d):uD 5 deep (fun z=>one z d):=by
 intro w B bp bt z ts h;have HO:=zh (hO w B bp bt z ts h);have H:=zh h;clear h hO
 go_enter Tryz.func136,Tryz.ntmps136
 go_wp2_with fail;refine HO.out.mono ?_;intro e w1 he;cases hr : one z d ts with
 | bad en p=>
  rw [hr] at he;have HE:=zh he;obtain⟨b,rfl⟩:=he.thrown;clear he;go_wp2_with fail;exact⟨rfl,HE.out⟩
 | ok x r=>
  rw [hr] at he;have HE:=zh he;obtain⟨_,v,rfl,_⟩:=he;go_wp2_with fail;go_ret
  first|exact HE.out|(rw [hr];exact HE.out)
theorem agQ (level deep:Nat) (hl : level < 5) (sub:Nat→Ps E) (hmono : ∀ z,aN (sub z)) (hS:uD (level + 1) deep sub) (lv:List (List UInt8)) (hlv : levels[level]?=some lv) (ai0 : deep≤11) :
  uD level deep (fun z=>mf (sub z) lv z):=by
 intro w B bp bt z ts h;have hS' : ∀ (w:World) (B bp bt z:Nat) (ts:List Tok),bQ w B bp bt z ts→Calls Tryz.prog 136 #[ptr bp,.int .i64 ((level:Int) + 1),.int .i64 deep] w (eP w B bp bt z (sub z ts) (EV w)):=fun w B bp bt z ts h=>by
  have:=hS w B bp bt z ts h
  simpa using this
 have HS:=zh (hS' w B bp bt z ts h);have NA:=zh hS';have H:=zh h;have BG:=zh hlv;have key : ∃ off c n,w.cell? ⟨bp,0,none⟩=some (.slice (some ⟨bt,off,none⟩) (n + 1) c)∧w.cell? ⟨bt,off + 2,none⟩=some (.int .i64 (hd z ts)):=by
  cases ts with
  | nil=>obtain⟨off,c,c0,_,c2,_⟩:=yB h;exact⟨off,c,0,c0,c2⟩
  | cons t r=>obtain⟨off,c,_,c0,_,_,c2,_⟩:=uJ h;exact⟨off,c,r.length + 1,c0,c2⟩
 obtain⟨off,c,n,c0,c2⟩:=key;have hbp:=h.ru;have HM:=zh (hmono z);have hne5 : ((level:Int) == 5)=false:=by simp;omega
 have hwr:IntKind.i64.wrap ((level:Int) + 1)=(level:Int) + 1:=by
  simp only [IntKind.wrap,IntKind.bits,IntKind.signed];simp;omega
 clear h hS hS' hlv hmono;cases hr : sub z ts with
 | bad en p=>
  rw [hr] at HS;have HR:=zh hr;clear hr
  go_enter Tryz.func136,Tryz.ntmps136
  go_wp2_with fail;refine HS.out.mono ?_;intro e w1 he;have HE:=zh he;obtain⟨b,rfl⟩:=he.thrown;clear he;go_wp2_with fail;refine⟨rfl,?_⟩;rw [mf,HR.out];exact HE.out
 | ok x r=>
  rw [hr] at HS;have HR:=zh hr;clear hr
  go_enter Tryz.func136,Tryz.ntmps136
  go_wp2_with fail;refine HS.out.mono ?_;rintro e w1 ⟨hc1,v,rfl,hv,hp1⟩;have cZ:=zh hc1;have HV:=zh hv;have oh:=zh hp1;clear hc1 hv hp1;go_wp2_with fail;refine(VG level lv BG.out w1 B bp bt z r oh.out).mono ?_;rintro _ w2 ⟨rfl,rfl⟩;go_wp2_with fail
  go_loopw [8,9] (fun v op wr=>∃ (f:Nat) (x':E) (ts':List Tok),op=str ((rC lv ts').getD [])∧oq (sub z) lv (hd z ts) (r.length + 1) x r=oq (sub z) lv (hd z ts) f x' ts'∧ts'.length < f∧aY wr (New w wr) x' [v]∧bQ wr B bp bt z ts'∧ae [bp] w wr) (fun _ _ wr=>E8 wr bp)
  case atStart=>exact⟨r.length + 1,x,r,rfl,rfl,Nat.lt_succ_self _,HV.out,oh.out,cZ.out⟩
  case round=>
   obtain⟨f,x',ts',rfl,hb,hf,hx,hp,hc⟩:=hrel;have HB:=zh hb;have HX:=zh hx;have HP:=zh hp;have HC:=zh hc;clear hb hx hp hc;obtain⟨f,rfl⟩ : ∃ f',f=f' + 1:=⟨f - 1,by omega⟩
   cases ho : rC lv ts' with
   | none=>
    have HO:=zh ho;clear ho;simp only [Option.getD_none];go_wp2_with fail;go_ret
    simp only [mf,HR.out];rw [HB.out,oq,HO.out];exact⟨HC.out,_,rfl,HX.out,HP.out⟩
   | some m=>
    have hm:=agO BG.out (List.mem_of_find?_eq_some ho);have HO:=zh ho;have vU:=VH ho;have iy:=zh (gN m _ B bp bt z ts' HP.out);rw [must,vU,if_pos rfl] at iy;have hst:=sP vU;clear ho vU;simp only [Option.getD_some];have hm1 : m.isEmpty=false:=by cases m;exact absurd rfl hm;rfl
    go_wp2_with fail;refine iy.out.mono ?_;rintro _ w3 ⟨hc3,_,rfl,rfl,hp3⟩;have bG:=zh hc3;have qx:=zh hp3;clear hc3 hp3;have BZ:=NA.out w3 B bp bt z ts'.tail qx.out;cases hsub : sub z ts'.tail with
    | bad en p=>
     rw [hsub] at BZ;have mY:=zh BZ;have HRR:=zh (show mf (sub z) lv z ts = .bad en p by simp only [mf,HR.out];rw [HB.out,oq,HO.out];simp only [hsub]);clear BZ hsub;go_wp2_with fail;refine mY.out.mono ?_;intro e w4 he;have HE:=zh he;obtain⟨b,rfl⟩:=he.thrown;clear he;go_wp2_with fail;refine⟨rfl,?_⟩;rw [HRR.out];exact HE.out.eO (HC.out.then bG.out)
    | ok y r2=>
     rw [hsub] at BZ;have mY:=zh BZ;have hr2:=HM.out _ _ _ hsub;have HRR:=zh (show oq (sub z) lv (hd z ts) (f + 1) x' ts'=oq (sub z) lv (hd z ts) f (.bin (hd z ts) m x' y) r2 by rw [oq,HO.out];simp only [hsub]);clear BZ hsub;go_wp2_with fail;refine mY.out.mono ?_;rintro e w4 ⟨hc4,v2,rfl,hv2,gz⟩;obtain⟨b2,rfl⟩:=hv2.ptr;obtain⟨b1,rfl⟩:=HX.out.ptr;have cz:=zh hc4;have D5:=zh hv2;have og:=zh gz;clear hc4 hv2 gz;go_wp2_with fail;refine(VG level lv BG.out _ B bp bt z r2 (og.out.kept ((ae.refl [] w4).alloc _) (by simp) (by simp) (by simp))).mono ?_;rintro _ w5 ⟨rfl,rfl⟩;have hx4:=(HX.out.grown hbp (bG.out.then cz.out));have hs4 : w.heap.size≤w3.heap.size:=(HC.out.then bG.out).size;have hy4:=aY.later D5.out hs4;have hs5 : w.heap.size≤w4.heap.size:=Nat.le_trans hs4 cz.out.size;have A8:=zh hx4;have HY4:=zh hy4;clear hx4 hy4;go_wp2_with fail;refine⟨⟨f,.bin (hd z ts) m x' y,r2,rfl,HB.out.trans HRR.out,by omega,?_,og.out.kept ((ae.refl [] w4).alloc _) (by simp) (by simp) (by simp),((HC.out.then bG.out).then cz.out).alloc _⟩,?_⟩
     ·have aO:ae [bp] w4 (w4.alloc (.cells #[.int .i64 5,.int .i64 (hd z ts),.int .i64 0,str [],str [],str m,ptr b1,ptr b2,ah] 192)):=(ae.refl _ _).alloc _
      exact⟨w4.heap.size,ptr b1,ptr b2,rfl,⟨hs5,by simp⟩,ag.new _ _ _,A8.out.grown hbp aO,HY4.out.grown hbp aO⟩
     ·rw [(og.out.kept ((ae.refl [] w4).alloc _) (by simp) (by simp) (by simp)).cnt,HP.out.cnt]
      omega
theorem VJ (deep d:Nat) (hO:BX deep d) (hmono : ∀ z,aN (one z d)) (hdp : deep≤11) : ∀ k,k≤5→uD (5 - k) deep (fun z=>expr z (one z d) k):=by
 intro k
 induction k with
 | zero=>exact fun _=>agP deep d hO
 | succ k ih=>
  intro hk;have hlv : levels[5 - (k + 1)]?=some (levels.getD (4 - k) []):=by
   rw [show 5 - (k + 1)=4 - k by omega];have : 4 - k < levels.length:=by show 4 - k < 5;omega
   simp [this]
  have hS:uD (5 - (k + 1) + 1) deep (fun z=>expr z (one z d) k):=by rw [show 5 - (k + 1) + 1=5 - k by omega];exact ih (by omega)
  exact agQ (5 - (k + 1)) deep (by omega) (fun z=>expr z (one z d) k) (fun z=>agN (hmono z) k) hS _ hlv hdp
end Go.Proofs.YtechofppmnnomaaGreatDoor
namespace Go.Mq.Tree
open Go Go.RowKit Go.Mq
structure jb (Q:World→(Nat→Prop)→Prop):Prop where
 mono : ∀ {w:World} {F G:Nat→Prop},(∀ x,F x→G x)→Q w F→Q w G
 kept : ∀ {S:List Nat} {w w':World} {F:Nat→Prop},ae S w w'→(∀ x∈S,¬ F x)→Q w F→Q w' F
def Off (w wr:World) (l:Value):Nat→Prop:=fun b=>w.heap.size≤b∧b < wr.heap.size∧b∉blk l
section
variable {Q:World→(Nat→Prop)→Prop} {w wr w2 w3 w':World} {l l':Value} {o:Obj}
theorem jb.call (hQ:jb Q) {bp:Nat} (h:Q wr (Off w wr l)) (hc:ae [bp] wr w2) (hbp : bp < w.heap.size):Q w2 (Off w w2 l):=
 hQ.mono (fun x hx=>⟨hx.1,by have:=hc.size;have:=hx.2.1;omega,hx.2.2⟩) (hQ.kept hc (fun x hx hn=>by simp at hx;have:=hn.1;omega) h)
theorem jb.fresh (hQ:jb Q) (h:Q w2 (New w3 w2)) (hl : ∀ g∈blk l,g < w3.heap.size) (hs : w.heap.size≤w3.heap.size):Q w2 (Off w w2 l):=
 hQ.mono (fun x hx=>⟨Nat.le_trans hs hx.1,hx.2,fun hm=>by have:=hl x hm;have:=hx.1;omega⟩) h
theorem jb.app (hQ:jb Q) (h:Q w2 (Off w w2 l)) (hch:ae (blk l) (w2.alloc o) w') (hm:dS (w2.alloc o) l l'):Q w' (Off w w' l'):=by
 refine hQ.mono (fun x hx=>⟨hx.1,by have h1 : w2.heap.size≤(w2.alloc o).heap.size:=(by simp);have:=hch.size;have:=hx.2.1;omega,fun hm'=>?_⟩) (hQ.kept (((ae.refl [] w2).alloc o).weak.then hch) (fun x hx hn=>hn.2.2 hx) h);rcases hm x hm' with h1|h1
 ·exact hx.2.2 h1
 ·have:=hx.2.1;simp at h1;omega
theorem jb.done (hQ:jb Q) (h:Q wr (Off w wr l)):Q wr (New w wr):=hQ.mono (fun _ hx=>⟨hx.1,hx.2.1⟩) h
end
theorem Ad (e:E) (us:List Value):jb (fun w F=>aY w F e us):=⟨fun hF h=>h.mono hF,fun hc hS h=>h.kept hc hS⟩
theorem Ca (l:List E) (us:List Value):jb (fun w F=>kF w F l us):=⟨fun hF h=>h.mono hF,fun hc hS h=>h.kept hc hS⟩
theorem yn (s:S) (cs:List Value):jb (fun w F=>dJ w F s cs):=⟨fun hF h=>h.mono hF,fun hc hS h=>h.kept hc hS⟩
theorem IZ (l:List aX) (cs:List Value):jb (fun w F=>kG w F l cs):=⟨fun hF h=>h.mono hF,fun hc hS h=>h.kept hc hS⟩
def agS (w:World) (F:Nat→Prop) (l:List E) (v:Value):Prop:=∃ a c vs,v = .slice a vs.length c∧vs.length≤c∧Row w F a vs∧kF w F l vs
theorem agT {z:Nat} {ex:Ps E} (hs:pI ex) : ∀ f first l,aN (jc z ex f first l):=by
 intro f
 induction f with
 | zero=>intro first l ts a r h;cases h
 | succ f ih=>
  intro first l ts a r h;rw [jc] at h;cases h1 : see [41] ts with
  | true=>rw [h1,if_pos rfl] at h;cases h;simp
  | false=>
   rw [h1,if_neg (by simp)] at h;split at h
   ·cases h
   ·split at h
    ·cases h
    ·rename_i x r2 hx
     have g1:=hs _ _ _ hx;have g2:=ih _ _ _ _ _ h;have g3 : (if first=true then ts else ts.tail).length≤ts.length:=by split <;> simp
     omega
end Go.Mq.Tree
namespace Go.Proofs.YtechofppmnnomaaGreatDoor
open Go Go.RowKit Go.Mq Go.Mq.Tree
set_option maxRecDepth 100000
set_option maxHeartbeats 4000000
theorem F9 : (Tryz.prog.info? 166).map (fun i=>(i.zero,i.size,i.bytes))=some (some (.pointer none),1,8):=by kernel_rfl
theorem NB {deep:Nat} {ex:Nat→Ps E} (h:uD 0 (deep + 1) ex) : ∀ (w:World) (B bp bt z:Nat) (ts:List Tok),bQ w B bp bt z ts→Calls Tryz.prog 136 #[ptr bp,.int .i64 0,.int .i64 ((deep:Int) + 1)] w (eP w B bp bt z (ex z ts) (EV w)):=fun w B bp bt z ts hp=>by
 have:=h w B bp bt z ts hp
 simpa using this
theorem E9 {deep:Nat} (h : deep≤11):IntKind.i64.wrap ((deep:Int) + 1)=(deep:Int) + 1:=by
 simp only [IntKind.wrap,IntKind.bits,IntKind.signed];simp;omega
theorem agU (deep:Nat) (hdp : deep≤11) (ex:Nat→Ps E) (hE:uD 0 (deep + 1) ex) (Ae : ∀ z,pI (ex z)) (w:World) (B bp bt z:Nat) (ts:List Tok) (h:bQ w B bp bt z ts) (vU : see [40] ts=true) :
  Calls Tryz.prog 182 #[ptr bp,.int .i64 deep] w (eP w B bp bt z (jc z (ex z) (ts.length + 1) true [] ts.tail) (fun w' l v=>agS w' (New w w') l v)):=by
 have HE:=zh (NB hE);have H:=zh h;have iy:=zh (gN [40] w B bp bt z ts h);rw [must,vU,if_pos rfl] at iy;have hB:=h.laid.le;have hbp:=h.ru;have hbt:=h.vT;have hwr:=E9 hdp;have hst:=sP vU;have dK:=h.few;have HM:=zh (Ae z);clear h hE vU Ae
 go_enter Tryz.func182,Tryz.ntmps182
 go_wp2_with fail;refine iy.out.mono ?_;rintro _ w1 ⟨hc1,_,rfl,rfl,hp1⟩;have cZ:=zh hc1;have oh:=zh hp1;clear hc1 hp1;go_wp2_with fail
 go_loopw [5,6] (fun l m wr=>∃ (f:Nat) (b:Bool) (acc:List E) (vs:List Value) (ts':List Tok),m = .bool b∧jc z (ex z) (ts.length + 1) true [] ts.tail=jc z (ex z) f b acc ts'∧ts'.length < f∧acc.length + ts'.length≤600 ∧
   bQ wr B bp bt z ts'∧wr.ownsRow 0 166 1 l acc.length vs∧kF wr (Off w wr l) acc vs∧From w.heap.size l∧ae [bp] w wr) (fun _ _ wr=>E8 wr bp)
 case atStart=>exact⟨ts.length + 1,true,[],[],ts.tail,rfl,rfl,by omega,by simp;omega,oh.out,World.ownsRow_nil _ _ _ _,rfl,From.nil _,cZ.out⟩
 case round=>
  obtain⟨f,b,acc,vs,ts',rfl,hr,hf,hlen,hp,ho,hes,hF,hC⟩:=hrel;have HR:=zh hr;have HP:=zh hp;have HO:=zh ho;have qj:=zh hes;have HF:=zh hF;have HC:=zh hC;obtain⟨sa,sc,hs⟩:=gu ho;clear hr hp ho hes hF hC;subst hs;obtain⟨f,rfl⟩ : ∃ f',f=f' + 1:=⟨f - 1,by omega⟩
  have HT:=zh (kQ [41] wr B bp bt z ts' HP.out);cases hsc : see [41] ts' with
  | true=>
   have HRR:=zh (show jc z (ex z) (ts.length + 1) true [] ts.tail = .ok acc ts'.tail by rw [HR.out,jc,hsc,if_pos rfl]);have HI:=zh hsc;clear hsc;go_wp2_with fail;refine HT.out.mono ?_;rintro _ w2 ⟨rfl,hp2,hc2,_⟩;rw [HI.out];rw [skip,HI.out,if_pos rfl] at hp2;have Ab:=zh hp2;have aD:=zh hc2;clear hp2 hc2;go_wp2_with fail;go_ret
   rw [HRR.out];refine⟨HC.out.then aD.out,_,rfl,?_,Ab.out⟩;have ho2:=cK HO.out aD.out (fun g hg hm=>by have:=HF.out g hg;simp at hm;omega);obtain⟨a,c,he,hac,hrow⟩:=Row.jF ho2 (Am ho2 HF.out);have hln:=qj.out.len;exact⟨a,c,vs,by rw [hln];exact he,by omega,hrow,(Ca acc vs).done ((Ca acc vs).call qj.out aD.out hbp)⟩
  | false=>
   have HI:=zh hsc;cases b with
   | true=>
    have hlt : ts'.length < f + 1:=hf;have HRR:Hid (∀ q,ex z ts'=q→jc z (ex z) (ts.length + 1) true [] ts.tail=match q with | .bad e p=>.bad e p | .ok x r=>jc z (ex z) f false (acc ++ [x]) r):=zh (fun q hq=>by rw [HR.out,jc,hsc,if_neg (by simp),if_neg (by simp),if_pos rfl,hq];cases q <;> rfl);clear hsc;have nI:=zh (HE.out wr B bp bt z ts' HP.out);cases hx : ex z (ts') with
    | bad en p=>
     have HX:=zh hx;rw [HX.out] at nI;clear hx;go_wp2_with fail;refine HT.out.mono ?_;rintro _ w2 ⟨rfl,_,_,hw⟩;rw [HI.out];have hw':=(hw HI.out).symm;subst hw';clear hw;go_wp2_with fail;refine nI.out.mono ?_;intro e w4 he;have aW:=zh he;obtain⟨b,rfl⟩:=he.thrown;clear he;go_wp2_with fail;refine⟨rfl,?_⟩;rw [HRR.out _ HX.out];exact aW.out.eO (HC.out)
    | ok x r=>
     have HX:=zh hx;have hxl:=HM.out _ _ _ hx;rw [HX.out] at nI;clear hx;go_wp2_with fail;refine HT.out.mono ?_;rintro _ w2 ⟨rfl,_,_,hw⟩;rw [HI.out];have hw':=(hw HI.out).symm;subst hw';clear hw;go_wp2_with fail;refine nI.out.mono ?_;rintro e w4 ⟨hc4,v4,rfl,hv4,gz⟩;obtain⟨b4,rfl⟩:=hv4.ptr;have cz:=zh hc4;have u7:=zh hv4;have og:=zh gz;have pg:=cK HO.out ((ae.refl [bp] wr).then hc4) (fun g hg hm=>by have:=HF.out g hg;simp at hm;omega);have yo:=cK pg ((ae.refl [] w4).alloc (.cells #[ptr b4] 166)) (by simp);have nP:=zh yo;clear hc4 hv4 gz pg yo;go_wp2_with (at_builtin;go_must (refine pO rfl _ _ 190 rfl 166 _ 1 8 F9 Tryz.underlying190 rfl (by decide) _ _ _ rfl nP.out ⟨w4.heap.size,0,none⟩ 1 1 [_] rfl rfl (Aj _ _ _) (by simp [Value.oneCell']) ?_ ?_ ?_))
     ·omega
     ·unfold maxLen;omega
     ·intro v' w' hown' hch' bX
      have iQ:=zh hown';clear hown';obtain⟨kR,bC,yt⟩:=grow_step hB hbp hbt (HC.out) cz.out og.out HF.out hch' bX;have jw : ∀ g∈blk _,g < wr.heap.size:=fun g hg=>Nat.lt_of_lt_of_le (pM HO.out g hg) (ae.refl [bp] wr).size
      have yu:=(Ca acc vs).call qj.out ((ae.refl [bp] wr).then cz.out) hbp;have hx4:=(Ad x [ptr b4]).fresh u7.out jw (HC.out).size;have yw:=(Ca acc vs).app yu hch' bX;have hx5:=(Ad x [ptr b4]).app hx4 hch' bX;have Fa:=zh (kF.snoc yw hx5);have nD:=zh kR;have cO:=zh bC;have Cb:=zh yt;clear hch' bX kR bC yt yu hx4 yw hx5 jw;go_wp2_with fail;refine⟨⟨f,false,acc ++ [x],vs ++ [ptr b4],r,rfl,HRR.out _ HX.out,by omega,by simp;omega,nD.out,by simpa using iQ.out,Fa.out,Cb.out,cO.out⟩,?_⟩;rw [nD.out.cnt,HP.out.cnt];omega
   | false=>
    have Af:=zh (gN [44] wr B bp bt z ts' HP.out);cases hcm : see [44] ts' with
    | false=>
     have HRR:=zh (show jc z (ex z) (ts.length + 1) true [] ts.tail = .bad 3 (hd z ts') by rw [HR.out,jc,hsc,if_neg (by simp),if_pos ⟨rfl,hcm⟩]);rw [must,hcm,if_neg (by simp)] at Af;clear hsc hcm;go_wp2_with fail;refine HT.out.mono ?_;rintro _ w2 ⟨rfl,_,_,hw⟩;rw [HI.out];have hw':=(hw HI.out).symm;subst hw';clear hw;go_wp2_with fail;refine Af.out.mono ?_;intro e w4 he;have aW:=zh he;obtain⟨b,rfl⟩:=he.thrown;clear he;go_wp2_with fail;refine⟨rfl,?_⟩;rw [HRR.out];exact aW.out.eO HC.out
    | true=>
     have hct:=sP hcm;have HRR:Hid (∀ q,ex z ts'.tail=q→jc z (ex z) (ts.length + 1) true [] ts.tail=match q with | .bad e p=>.bad e p | .ok x r=>jc z (ex z) f false (acc ++ [x]) r):=zh (fun q hq=>by rw [HR.out,jc,hsc,if_neg (by simp),if_neg (by rw [hcm];simp),if_neg (by simp),hq];cases q <;> rfl);rw [must,hcm,if_pos rfl] at Af;clear hsc hcm;go_wp2_with fail;refine HT.out.mono ?_;rintro _ w2 ⟨rfl,_,_,hw⟩;rw [HI.out];have hw':=(hw HI.out).symm;subst hw';clear hw;go_wp2_with fail;refine Af.out.mono ?_;rintro _ w3 ⟨hc3,_,rfl,rfl,hp3⟩;have bG:=zh hc3;have qx:=zh hp3;clear hc3 hp3;have nI:=zh (HE.out w3 B bp bt z ts'.tail qx.out);cases hx : ex z (ts'.tail) with
     | bad en p=>
      have HX:=zh hx;rw [HX.out] at nI;clear hx;go_wp2_with fail;refine nI.out.mono ?_;intro e w4 he;have aW:=zh he;obtain⟨b,rfl⟩:=he.thrown;clear he;go_wp2_with fail;refine⟨rfl,?_⟩;rw [HRR.out _ HX.out];exact aW.out.eO (HC.out.then bG.out)
     | ok x r=>
      have HX:=zh hx;have hxl:=HM.out _ _ _ hx;rw [HX.out] at nI;clear hx;go_wp2_with fail;refine nI.out.mono ?_;rintro e w4 ⟨hc4,v4,rfl,hv4,gz⟩;obtain⟨b4,rfl⟩:=hv4.ptr;have cz:=zh hc4;have u7:=zh hv4;have og:=zh gz;have pg:=cK HO.out ((bG.out).then hc4) (fun g hg hm=>by have:=HF.out g hg;simp at hm;omega);have yo:=cK pg ((ae.refl [] w4).alloc (.cells #[ptr b4] 166)) (by simp);have nP:=zh yo;clear hc4 hv4 gz pg yo;go_wp2_with (at_builtin;go_must (refine pO rfl _ _ 190 rfl 166 _ 1 8 F9 Tryz.underlying190 rfl (by decide) _ _ _ rfl nP.out ⟨w4.heap.size,0,none⟩ 1 1 [_] rfl rfl (Aj _ _ _) (by simp [Value.oneCell']) ?_ ?_ ?_))
      ·omega
      ·unfold maxLen;omega
      ·intro v' w' hown' hch' bX
       have iQ:=zh hown';clear hown';obtain⟨kR,bC,yt⟩:=grow_step hB hbp hbt (HC.out.then bG.out) cz.out og.out HF.out hch' bX;have jw : ∀ g∈blk _,g < w3.heap.size:=fun g hg=>Nat.lt_of_lt_of_le (pM HO.out g hg) bG.out.size
       have yu:=(Ca acc vs).call qj.out ((bG.out).then cz.out) hbp;have hx4:=(Ad x [ptr b4]).fresh u7.out jw (HC.out.then bG.out).size;have yw:=(Ca acc vs).app yu hch' bX;have hx5:=(Ad x [ptr b4]).app hx4 hch' bX;have Fa:=zh (kF.snoc yw hx5);have nD:=zh kR;have cO:=zh bC;have Cb:=zh yt;clear hch' bX kR bC yt yu hx4 yw hx5 jw;go_wp2_with fail;refine⟨⟨f,false,acc ++ [x],vs ++ [ptr b4],r,rfl,HRR.out _ HX.out,by omega,by simp;omega,nD.out,by simpa using iQ.out,Fa.out,Cb.out,cO.out⟩,?_⟩;rw [nD.out.cnt,HP.out.cnt];omega
end Go.Proofs.YtechofppmnnomaaGreatDoor
namespace Go.Mq.Tree
open Go Go.RowKit Go.Mq
def ry (z:Nat) (ex:Ps E) (p:Nat) (q:List UInt8 × List UInt8):Ps E:=fun r=>if see [91] r then match ex r.tail with
  | .bad e p=>.bad e p
  | .ok i r2=>match must z [93] r2 with
   | .bad e p=>.bad e p
   | .ok _ r3=>.ok (.item p q.1 q.2 i) r3
 else if see [40] r then match jc z ex (r.length + 1) true [] r.tail with
  | .bad e p=>.bad e p
  | .ok l r2=>.ok (.app p q.1 q.2 (E.ofList l)) r2
 else .ok (.var p q.1 q.2) r
theorem Cc (z:Nat) (ex:Ps E) (ts:List Tok) : named z ex ts=match pQ z ts with
  | .bad e p=>.bad e p
  | .ok q r=>ry z ex (hd z ts) q r:=rfl
theorem agV (z:Nat):pI (pQ z):=by
 intro ts a r h;rw [pQ] at h;cases h1 : name z ts with
 | bad e p=>rw [h1] at h;cases h
 | ok n r1=>
  rw [h1] at h;have g1:=Ny h1;simp only at h;split at h
  ·rename_i hs
   have g2:=sP hs;cases h2 : name z r1.tail with
   | bad e p=>rw [h2] at h;cases h
   | ok n2 r2=>
    rw [h2] at h;have g3:=Ny h2;cases h
    omega
  ·cases h;omega
theorem uE {z:Nat} {s:List UInt8} {ts r:List Tok} {u:Unit} (h : must z s ts = .ok u r) : r.length + 1=ts.length:=by
 rw [must] at h;split at h
 ·rename_i hs;cases h;exact sP hs
 ·cases h
theorem agW {z:Nat} {ex:Ps E} (he:pI ex) (p:Nat) (q:List UInt8 × List UInt8):aN (ry z ex p q):=by
 intro ts a r h;rw [ry] at h;split at h
 ·cases h1 : ex ts.tail with
  | bad e p=>rw [h1] at h;cases h
  | ok i r2=>
   rw [h1] at h;have g1:=he _ _ _ h1;cases h2 : must z [93] r2 with
   | bad e p=>simp only [h2] at h;cases h
   | ok u r3=>
    simp only [h2] at h;have g2:=uE h2;cases h
    simp at g1
    omega
 ·split at h
  ·cases h1 : jc z ex (ts.length + 1) true [] ts.tail with
   | bad e p=>rw [h1] at h;cases h
   | ok l r2=>
    rw [h1] at h;have g1:=agT he _ _ _ _ _ _ h1;cases h
    simp at g1
    omega
  ·cases h;exact Nat.le_refl _
theorem VK {z:Nat} {ex:Ps E} (he:pI ex):pI (named z ex):=by
 intro ts a r h;rw [Cc] at h;cases h1 : pQ z ts with
 | bad e p=>rw [h1] at h;cases h
 | ok q r1=>
  rw [h1] at h;have g1:=agV z _ _ _ h1;have g2:=agW he _ _ _ _ _ h;omega
def I1 (w wr:World):Nat→Prop:=fun b=>w.heap.size≤b∧b < wr.heap.size∧b≠w.heap.size
end Go.Mq.Tree
namespace Go.Proofs.YtechofppmnnomaaGreatDoor
open Go Go.RowKit Go.Mq Go.Mq.Tree
set_option maxRecDepth 100000
set_option maxHeartbeats 8000000
theorem Fb {w:World} {B bp bt z:Nat} {ts:List Tok} (h:bQ w B bp bt z ts) : ∃ off c n,w.cell? ⟨bp,0,none⟩=some (.slice (some ⟨bt,off,none⟩) (n + 1) c)∧w.cell? ⟨bt,off + 2,none⟩=some (.int .i64 (hd z ts)):=by
 cases ts with
 | nil=>obtain⟨off,c,c0,_,c2,_⟩:=yB h;exact⟨off,c,0,c0,c2⟩
 | cons t r=>obtain⟨off,c,_,c0,_,_,c2,_⟩:=uJ h;exact⟨off,c,r.length + 1,c0,c2⟩
theorem VL (deep:Nat) (hdp : deep≤11) (ex:Nat→Ps E) (hE:uD 0 (deep + 1) ex) (Ae : ∀ z,pI (ex z)) (w:World) (B bp bt z:Nat) (ts:List Tok) (h:bQ w B bp bt z ts) :
  Calls Tryz.prog 164 #[ptr bp,.int .i64 deep] w (eP w B bp bt z (named z (ex z) ts) (EV w)):=by
 have HE:=zh (NB hE);have H:=zh h;obtain⟨off,c,nn,c0,c2⟩:=Fb h;have hB:=h.laid.le;have hbp:=h.ru;have hbt:=h.vT;have hwr:=E9 hdp;have hxb : w.heap.size≠bp:=by omega
 have hxt : w.heap.size≠bt:=by omega
 clear h
 go_enter Tryz.func164,Tryz.ntmps164
 go_wp2_with fail;have hc1:ae [bp] w (w.alloc (.cells #[.int .i64 2,.int .i64 (hd z ts),.int .i64 0,str [],str [],str [],aJ,aJ,ah] 192)):=(ae.refl _ _).alloc _;have hp1:bQ (w.alloc (.cells #[.int .i64 2,.int .i64 (hd z ts),.int .i64 0,str [],str [],str [],aJ,aJ,ah] 192)) B bp bt z ts:=H.out.kept ((ae.refl [] w).alloc _) (by simp) (by simp) (by simp);have hb1:=ag.new w #[.int .i64 2,.int .i64 (hd z ts),.int .i64 0,str [],str [],str [],aJ,aJ,ah] 192;have zX:=zh (BU _ B bp bt z ts hp1);have cZ:=zh hc1;have HB1:=zh hb1;clear hc1 hp1 hb1;cases hn : name z ts with
 | bad en p=>
  have HRR:=zh (show named z (ex z) ts = .bad en p by rw [Cc,pQ,hn]);rw [hn] at zX;clear hn;refine zX.out.mono ?_;intro e w6 he;have aW:=zh he;obtain⟨b,rfl⟩:=he.thrown;clear he;go_wp2_with fail;refine⟨rfl,?_⟩;rw [HRR.out];exact aW.out.eO (cZ.out)
 | ok n r=>
  have NC:=zh hn;rw [hn] at zX;clear hn;refine zX.out.mono ?_;rintro e w2 ⟨hc2,_,rfl,rfl,hp2⟩;have hb2:=HB1.out.kept hc2 (by simpa using hxb);have f4:=hb2.frozen 4;have e4:=hb2.cell 4 _ rfl;have hb3:=hb2.set 4 (str n);have hc3:=ae.set1 w2 w.heap.size 4 (str n);have VM:ae [bp] w (w2.setCell ⟨w.heap.size,4,none⟩ (str n)):=(cZ.out.then hc2).trans hc3 (fun x hx=>.inr (by simp at hx;omega));have hp3:=hp2.kept hc3 (fun x hx=>by simp at hx;omega) (by simpa using Ne.symm hxb) (by simp;omega);have HB3:=zh hb3;have VN:=zh VM;have qx:=zh hp3;clear hc2 hp2 hb2 hb3 hc3 VM hp3;go_wp2_with fail
  generalize w2.setCell ⟨w.heap.size,4,none⟩ (str n)=w3 at *
  have xu:=zh (kQ [46] w3 B bp bt z r qx.out);cases h4 : see [46] r
  case' false=>
   have HI4:=zh h4;obtain⟨q,hq⟩ : ∃ q:List UInt8 × List UInt8,q=([],n):=⟨_,rfl⟩
   have HN:Hid (named z (ex z) ts=ry z (ex z) (hd z ts) q r):=zh (by rw [Cc,pQ,NC.out];simp only [h4,hq];rfl);clear h4;refine xu.out.mono ?_;rintro _ w4 ⟨rfl,_,_,hw⟩;rw [HI4.out];have hw':=(hw HI4.out).symm;subst hw';clear hw;have HQ:Hid (ag w3 w.heap.size #[.int .i64 2,.int .i64 (hd z ts),.int .i64 0,str q.1,str q.2,str [],aJ,aJ,ah] 192):=zh (by rw [hq];simpa using HB3.out);have hb5:=zh HQ.out.lt;clear hq;have Fe:=qx;have uw:=VN;obtain⟨wq,rfl⟩ : ∃ x,x=w3:=⟨_,rfl⟩
   obtain⟨r',rfl⟩ : ∃ x,x=r:=⟨_,rfl⟩
  case' true=>
   have HI4:=zh h4;have h4t:=sP h4;clear h4;refine xu.out.mono ?_;rintro _ w4 ⟨rfl,gz,hc4,_⟩;rw [HI4.out];rw [skip,HI4.out,if_pos rfl] at gz;have hb4:=(HB3.out.kept hc4 (by simpa using hxb)).kept ((ae.refl [] w4).drew) (by simp);have VO : w4.drew.cell? ⟨w.heap.size,4,none⟩=some (str n):=hb4.cell 4 _ rfl;have qC:=zh hb4;have Ff:ae [bp] w w4.drew:=(VN.out.then hc4).drew;have VP:=zh Ff;have Bc:=zh (BU w4.drew B bp bt z r.tail (gz.kept ((ae.refl [] w4).drew) (by simp) (by simp) (by simp)));have hag : ∀ w,(isAgg 9).run Tryz.prog w = .ok false w:=Tryz.isAgg9
   clear gz hc4 hb4 Ff;cases hn2 : name z r.tail
   case' bad en p=>
    have HRR:=zh (show named z (ex z) ts = .bad en p by rw [Cc,pQ,NC.out];simp only [HI4.out,if_true,hn2]);rw [hn2] at Bc;clear hn2;go_wp2_with fail;refine EZ 7 [true,true,true,true,true,true,true] rfl (by kernel_rfl) (by kernel_rfl) rfl ?_
    repeat ((with_reducible show bW _ _ _ _ _ _ _ _);(first|refine aM ?_|refine oP rfl ?_|refine kX rfl rfl (by kernel_rfl) (fun _ _=>?_)|refine qf rfl rfl rfl (by exact⟨_,_,VO⟩) (fun _ _=>?_));go_wp2_with fail)
    refine Bc.out.mono ?_;intro e w6 he;have aW:=zh he;obtain⟨b,rfl⟩:=he.thrown;clear he;intro a' ha;refine⟨ha,?_⟩;rw [HRR.out];exact aW.out.eO VP.out
   case' ok n2 r2=>
    have HN:Hid (named z (ex z) ts=ry z (ex z) (hd z ts) (n,n2) r2):=zh (by rw [Cc,pQ,NC.out];simp only [HI4.out,if_true,hn2]);rw [hn2] at Bc;clear hn2;go_wp2_with fail;refine agq (fun w'=>ae [bp,w.heap.size] w4.drew w'∧w'.cell? ⟨w.heap.size,4,none⟩=some (str n)) rfl (by kernel_rfl) rfl ⟨ae.refl _ _,VO⟩ ?_
    repeat ((with_reducible show bW _ _ _ _ _ _ _ _);(first|refine kX rfl rfl (by kernel_rfl) (fun _ _=>?_));go_wp2_with fail)
    refine agp rfl rfl rfl (str n) hag (fun _ h=>h.2) ?_
    repeat ((with_reducible show bW _ _ _ _ _ _ _ _);(first|refine kX rfl rfl (by kernel_rfl) (fun _ _=>?_));go_wp2_with fail)
    refine Nq rfl rfl rfl (fun _ _=>?_);go_wp2_with fail;refine Bc.out.mono ?_;rintro e w6 ⟨hc6,_,rfl,rfl,dH⟩;have hs4 : w.heap.size < w4.drew.heap.size:=qC.out.lt;have hb6:=qC.out.kept hc6 (by simpa using hxb);have f63:=hb6.frozen 3;have f64:=hb6.frozen 4;have e63:=hb6.cell 3 _ rfl;have e64:=hb6.cell 4 _ rfl;have bI:=zh hc6;have iP:=zh dH;have lS:=zh hb6;clear hc6 dH hb6;go_wp2_with fail;refine And.intro ⟨bI.out.mono (fun x hx=>.inl (by simp at hx;simp [hx])),e64⟩ ?_
    repeat ((with_reducible show bW _ _ _ _ _ _ _ _);(first|refine kX rfl rfl (by kernel_rfl) (fun _ _=>?_));go_wp2_with fail)
    refine Nq rfl rfl rfl (fun _ _=>?_);go_wp2_with fail;have dR:=lS.out.set 3 (str n);have f74:=dR.frozen 4;have e74:=dR.cell 4 _ rfl;have rz:=zh dR;clear dR;refine And.intro ⟨(bI.out.mono (fun x hx=>.inl (by simp at hx;simp [hx]))).setCell _ (.inl (by simp)) _,e74⟩ ?_
    repeat ((with_reducible show bW _ _ _ _ _ _ _ _);(first|refine kX rfl rfl (by kernel_rfl) (fun _ _=>?_));go_wp2_with fail)
    refine tJ rfl rfl (fun _ _=>?_);go_wp2_with fail;have eD:=rz.out.set 4 (str n2);have hc8:ae [w.heap.size] w6 ((w6.setCell ⟨w.heap.size,3,none⟩ (str n)).setCell ⟨w.heap.size,4,none⟩ (str n2)):=(ae.set1 _ _ _ _).then (ae.set1 _ _ _ _)
    have VQ:ae [bp] w ((w6.setCell ⟨w.heap.size,3,none⟩ (str n)).setCell ⟨w.heap.size,4,none⟩ (str n2)):=(VP.out.then bI.out).trans hc8 (fun x hx=>.inr (by simp at hx;omega));have mH:=iP.out.kept hc8 (fun x hx=>by simp at hx;omega) (by simpa using Ne.symm hxb) (by simp;omega);obtain⟨q,hq⟩ : ∃ q:List UInt8 × List UInt8,q=(n,n2):=⟨_,rfl⟩
    have HQ:Hid (ag ((w6.setCell ⟨w.heap.size,3,none⟩ (str n)).setCell ⟨w.heap.size,4,none⟩ (str n2)) w.heap.size #[.int .i64 2,.int .i64 (hd z ts),.int .i64 0,str q.1,str q.2,str [],aJ,aJ,ah] 192):=zh (by rw [hq];simpa using eD);rw [← hq] at HN;have Fe:=zh mH;have uw:=zh VQ;have hb5:=zh HQ.out.lt;clear eD hc8 VQ mH f63 f64 e63 e64 f74 e74 hq lS rz
    generalize (w6.setCell ⟨w.heap.size,3,none⟩ (str n)).setCell ⟨w.heap.size,4,none⟩ (str n2)=wq at *
    obtain⟨r',rfl⟩ : ∃ x,x=r2:=⟨_,rfl⟩
  all_goals
   have lL:=zh (kQ [91] wq B bp bt z r' Fe.out);cases h5 : see [91] r' with
   | true=>
    have fG:=zh h5;have h5t:=sP h5;clear h5
    first|refine lL.out.mono ?_|(go_wp2_with fail;refine lL.out.mono ?_)
    rintro _ w5 ⟨rfl,kR,bC,_⟩;rw [fG.out];rw [skip,fG.out,if_pos rfl] at kR;have nD:=zh kR;have cO:=zh bC;clear kR bC;have nI:=zh (HE.out w5 B bp bt z r'.tail nD.out);go_wp2_with fail;refine nI.out.mono ?_;intro e w6 he;rcases he.part with⟨en,p,b,rfl,hx,aW⟩|⟨i,r6,hx,he⟩
    ·go_wp2_with fail;exact⟨rfl,by rw [show named z (ex z) ts = .bad en p by rw [HN.out,ry,if_pos fG.out,hx.out]];exact aW.out.eO (uw.out.then cO.out)⟩
    have HX:=hx;obtain⟨hc6,v6,rfl,hv6,dH⟩:=he;clear hx;obtain⟨b6,rfl⟩:=hv6.ptr;have bI:=zh hc6;have qG:=zh hv6;have iP:=zh dH;have hb6:=HQ.out.kept (cO.out.then hc6) (by simpa using hxb);have f60:=hb6.frozen 0;have f66:=hb6.frozen 6;have e60:=hb6.cell 0 _ rfl;have e66:=hb6.cell 6 _ rfl;have dR:=(hb6.set 0 (.int .i64 3)).set 6 (ptr b6);have dQ:ae [w.heap.size] w6 ((w6.setCell ⟨w.heap.size,0,none⟩ (.int .i64 3)).setCell ⟨w.heap.size,6,none⟩ (ptr b6)):=(ae.set1 _ _ _ _).then (ae.set1 _ _ _ _)
    have rz:=zh dR;have fF:=zh dQ;have VR:ae [bp] w ((w6.setCell ⟨w.heap.size,0,none⟩ (.int .i64 3)).setCell ⟨w.heap.size,6,none⟩ (ptr b6)):=((uw.out.then cO.out).then hc6).trans dQ (fun x hx=>.inr (by simp at hx;omega));have VS:=zh VR;have mJ:=iP.out.kept dQ (fun x hx=>by simp at hx;omega) (by simpa using Ne.symm hxb) (by simp;omega);have iy:=zh (gN [93] _ B bp bt z r6 mJ);have BA:=zh (show w.heap.size≤w5.heap.size from(uw.out.then cO.out).size);clear hc6 hv6 dH hb6 dR dQ VR mJ;go_wp2_with fail;cases h8 : see [93] r6 with
    | false=>
     have HRR:=zh (show named z (ex z) ts = .bad 3 (hd z r6) by rw [HN.out,ry,if_pos fG.out,HX.out];simp [must,h8]);rw [must,h8,if_neg (by simp)] at iy;clear h8;refine iy.out.mono ?_;intro e w8 he;have aW:=zh he;obtain⟨b,rfl⟩:=he.thrown;clear he;go_wp2_with fail;refine⟨rfl,?_⟩;rw [HRR.out];exact aW.out.eO (VS.out)
    | true=>
     have HRR:=zh (show named z (ex z) ts = .ok (.item (hd z ts) q.1 q.2 i) r6.tail by rw [HN.out,ry,if_pos fG.out,HX.out];simp [must,h8]);rw [must,h8,if_pos rfl] at iy;clear h8;refine iy.out.mono ?_;rintro e w8 ⟨hc8,_,rfl,rfl,mH⟩;have eU:=zh hc8;have vV:=zh mH;clear hc8 mH;go_wp2_with fail;go_ret
     rw [HRR.out];refine⟨VS.out.then eU.out,_,rfl,?_,vV.out⟩;have eD:=rz.out.kept eU.out (by simpa using hxb);have zR:aY w6 (I1 w w6) i [ptr b6]:=qG.out.mono fun x hx=>⟨Nat.le_trans BA.out hx.1,hx.2,by have:=hx.1;have:=hb5.out;have:=cO.out.size;omega⟩
     have hi7:=zR.kept fF.out (fun x hx hn=>by simp at hx;exact hn.2.2 hx);have hi8:=hi7.kept eU.out (fun x hx hn=>by simp at hx;have:=hn.1;omega);have hsz : w6.heap.size≤w8.heap.size:=Nat.le_trans fF.out.size eU.out.size;refine⟨w.heap.size,ptr b6,rfl,⟨Nat.le_refl _,eD.lt⟩,?_,hi8.mono fun x hx=>⟨hx.1,Nat.lt_of_lt_of_le hx.2.1 hsz⟩⟩
     simpa using eD
   | false=>
    have fG:=zh h5;clear h5;have pq:=zh (yl [40] wq B bp bt z r' Fe.out);cases h6 : see [40] r' with
    | true=>
     have Ce:=zh h6;have AJ:=zh (agU deep hdp ex hE Ae wq B bp bt z r' Fe.out h6);clear h6;cases hx : jc z (ex z) (r'.length + 1) true [] r'.tail with
     | bad en p=>
      have HRR:=zh (show named z (ex z) ts = .bad en p by rw [HN.out,ry,if_neg (by rw [fG.out];simp),if_pos Ce.out,hx]);rw [hx] at AJ;clear hx
      first|refine lL.out.mono ?_|(go_wp2_with fail;refine lL.out.mono ?_)
      rintro _ w5 ⟨rfl,_,_,hw⟩;rw [fG.out];have hw':=(hw fG.out).symm;subst hw';clear hw;go_wp2_with fail;refine pq.out.mono ?_;rintro _ w6 ⟨rfl,rfl⟩;rw [Ce.out];go_wp2_with fail;refine AJ.out.mono ?_;intro e w6 he;have aW:=zh he;obtain⟨b,rfl⟩:=he.thrown;clear he;go_wp2_with fail;refine⟨rfl,?_⟩;rw [HRR.out];exact aW.out.eO (uw.out)
     | ok l r6=>
      have HRR:=zh (show named z (ex z) ts = .ok (.app (hd z ts) q.1 q.2 (E.ofList l)) r6 by rw [HN.out,ry,if_neg (by rw [fG.out];simp),if_pos Ce.out,hx]);rw [hx] at AJ;clear hx
      first|refine lL.out.mono ?_|(go_wp2_with fail;refine lL.out.mono ?_)
      rintro _ w5 ⟨rfl,_,_,hw⟩;rw [fG.out];have hw':=(hw fG.out).symm;subst hw';clear hw;go_wp2_with fail;refine pq.out.mono ?_;rintro _ w6 ⟨rfl,rfl⟩;rw [Ce.out];go_wp2_with fail;refine AJ.out.mono ?_;rintro e w6 ⟨hc6,v6,rfl,⟨a6,c6,ND,rfl,hv1,hv2,hv3⟩,dH⟩;have bI:=zh hc6;have iP:=zh dH;have qG:=zh (And.intro hv1 (And.intro hv2 hv3));have hb6:=HQ.out.kept hc6 (by simpa using hxb);have f60:=hb6.frozen 0;have f68:=hb6.frozen 8;have e60:=hb6.cell 0 _ rfl;have e68:=hb6.cell 8 _ rfl;have dR:=(hb6.set 0 (.int .i64 6)).set 8 (.slice a6 ND.length c6);have dQ:ae [w.heap.size] w6 ((w6.setCell ⟨w.heap.size,0,none⟩ (.int .i64 6)).setCell ⟨w.heap.size,8,none⟩ (.slice a6 ND.length c6)):=(ae.set1 _ _ _ _).then (ae.set1 _ _ _ _)
      have rz:=zh dR;have fF:=zh dQ;have BA:=zh (show w.heap.size < _ from HQ.out.lt);clear hc6 hv1 hv2 hv3 dH hb6 dR dQ;go_wp2_with fail;go_ret
      rw [HRR.out];refine⟨(uw.out.then bI.out).trans fF.out (fun x hx=>.inr (by simp at hx;omega)),_,rfl,?_,iP.out.kept fF.out (fun x hx=>by simp at hx;omega) (by simpa using Ne.symm hxb) (by simp;omega)⟩;obtain⟨hv1,hv2,hv3⟩:=qG.out;have hF : ∀ x,New _ w6 x→I1 w w6 x:=fun x hx=>⟨Nat.le_trans uw.out.size hx.1,hx.2,by have:=hx.1;have:=BA.out;omega⟩
      have hk : ∀ x∈[w.heap.size],¬ I1 w w6 x:=fun x hx hn=>by simp at hx;exact hn.2.2 hx
      have Cf:=(hv2.mono hF).kept fF.out hk;have he7:=(kF.mono hF hv3).kept fF.out hk;have hG : ∀ x,I1 w w6 x→New w _ x:=fun x hx=>⟨hx.1,Nat.lt_of_lt_of_le hx.2.1 fF.out.size⟩
      refine⟨w.heap.size,a6,c6,ND,rfl,⟨Nat.le_refl _,rz.out.lt⟩,?_,hv1,Cf.mono hG,(he7.mono hG).one⟩
      simpa using rz.out
    | false=>
     have Ce:=zh h6;have HRR:=zh (show named z (ex z) ts = .ok (.var (hd z ts) q.1 q.2) r' by rw [HN.out,ry,if_neg (by rw [fG.out];simp),if_neg (by rw [h6];simp)]);clear h6
     first|refine lL.out.mono ?_|(go_wp2_with fail;refine lL.out.mono ?_)
     rintro _ w5 ⟨rfl,_,_,hw⟩;rw [fG.out];have hw':=(hw fG.out).symm;subst hw';clear hw;go_wp2_with fail;refine pq.out.mono ?_;rintro _ w6 ⟨rfl,rfl⟩;rw [Ce.out];go_wp2_with fail;go_ret
     rw [HRR.out];exact⟨uw.out,_,rfl,⟨w.heap.size,rfl,⟨Nat.le_refl _,HQ.out.lt⟩,HQ.out⟩,Fe.out⟩
end Go.Proofs.YtechofppmnnomaaGreatDoor
namespace Go.Mq.Tree
open Go Go.RowKit Go.Mq
def isNum:List Tok→Bool
 | []=>false
 | t :: _=>decide (t.kind = .number)
theorem sQ (z d:Nat) (ts:List Tok) : one z (d + 1) ts=if see [45] ts then (match one z d ts.tail with
   | .bad e p=>.bad e p
   | .ok x r=>.ok (.un (hd z ts) [45] x) r)
  else if see [110,111,116] ts then (match one z d ts.tail with
   | .bad e p=>.bad e p
   | .ok x r=>.ok (.un (hd z ts) [110,111,116] x) r)
  else if see [40] ts then (match expr z (one z d) 5 ts.tail with
   | .bad e p=>.bad e p
   | .ok x r=>match must z [41] r with
    | .bad e p=>.bad e p
    | .ok _ r2=>.ok x r2)
  else if isNum ts then (match number z 9223372036854775807 ts with
   | .bad e p=>.bad e p
   | .ok n r=>.ok (.num (hd z ts) n) r)
  else named z (expr z (one z d) 5) ts:=by
 cases ts with
 | nil=>rfl
 | cons t r=>
  rw [one];simp only [isNum,decide_eq_true_eq]
  rfl
theorem ag0 {z:Nat} {most:Int} {ts r:List Tok} {n:Int} (h : number z most ts = .ok n r) : r.length + 1=ts.length:=by
 cases ts with
 | nil=>cases h
 | cons t l=>
  rw [number] at h;split at h
  ·cases h
  ·split at h
   ·split at h
    ·cases h
    ·cases h;rfl
   ·cases h
theorem Cg (z:Nat) : ∀ d,pI (one z d):=by
 intro d
 induction d with
 | zero=>intro ts a r h;cases h
 | succ d ih=>
  intro ts a r h;rw [sQ] at h;split at h
  ·rename_i hs
   have g1:=sP hs;cases h1 : one z d ts.tail with
   | bad e p=>rw [h1] at h;cases h
   | ok x r2=>rw [h1] at h;cases h;have:=ih _ _ _ h1;omega
  ·split at h
   ·rename_i hs
    have g1:=sP hs;cases h1 : one z d ts.tail with
    | bad e p=>rw [h1] at h;cases h
    | ok x r2=>rw [h1] at h;cases h;have:=ih _ _ _ h1;omega
   ·split at h
    ·rename_i hs
     have g1:=sP hs;cases h1 : expr z (one z d) 5 ts.tail with
     | bad e p=>rw [h1] at h;cases h
     | ok x r2=>
      rw [h1] at h;have g2:=BV ih 5 _ _ _ h1;cases h2 : must z [41] r2 with
      | bad e p=>simp only [h2] at h;cases h
      | ok u r3=>simp only [h2] at h;have g3:=uE h2;cases h;omega
    ·split at h
     ·cases h1 : number z 9223372036854775807 ts with
      | bad e p=>rw [h1] at h;cases h
      | ok n r2=>rw [h1] at h;cases h;have:=ag0 h1;omega
     ·exact VK (BV ih 5) _ _ _ h
end Go.Mq.Tree
namespace Go.Proofs.YtechofppmnnomaaGreatDoor
open Go Go.RowKit Go.Mq Go.Mq.Tree
set_option maxRecDepth 100000
set_option maxHeartbeats 8000000
theorem ag1 {w:World} {B bp bt z:Nat} {ts:List Tok} (h:bQ w B bp bt z ts) : ∃ off c n kv tv,w.cell? ⟨bp,0,none⟩=some (.slice (some ⟨bt,off,none⟩) (n + 1) c)∧w.cell? ⟨bt,off,none⟩=some (.int .i64 kv)∧w.cell? ⟨bt,off + 1,none⟩=some (str tv)∧w.cell? ⟨bt,off + 2,none⟩=some (.int .i64 (hd z ts))∧(kv == 2)=isNum ts:=by
 cases ts with
 | nil=>
  obtain⟨off,c,hb,hl,hc⟩:=h.at_;exact⟨off,c,0,4,[],hb.cell 0 _ rfl,hc 0 _ rfl,hc 1 _ rfl,hc 2 _ rfl,rfl⟩
 | cons t r=>
  obtain⟨off,c,_,c0,c1,c2,c3,_⟩:=uJ h;exact⟨off,c,r.length + 1,t.kind.num,t.text,c0,c1,c2,c3,by cases hk : t.kind <;> simp [isNum,hk,Kind.num]⟩
theorem ag2:BX 11 0:=by
 intro w B bp bt z ts h;have HF:=zh (lF 4 w B bp bt z ts h);clear h
 go_enter Tryz.func162,Tryz.ntmps162
 go_wp2_with fail;refine HF.out.mono ?_;intro e w2 he;have HE:=zh he;obtain⟨b,rfl⟩:=he.thrown;clear he;go_wp2_with fail;exact⟨rfl,HE.out.eO (ae.refl _ _)⟩
theorem ag3 (deep d:Nat) (hdp : deep + (d + 1)=11) (hO:BX (deep + 1) d):BX deep (d + 1):=by
 have Ae : ∀ z,pI (expr z (one z d) 5):=fun z=>BV (Cg z d) 5
 have hE:uD 0 (deep + 1) (fun z=>expr z (one z d) 5):=VJ (deep + 1) d hO (fun z=>(Cg z d).mono) (by omega) 5 (Nat.le_refl _);intro w B bp bt z ts h;have nI:=zh (NB hE);have HO:Hid (∀ (w:World) (B bp bt z:Nat) (ts:List Tok),bQ w B bp bt z ts→Calls Tryz.prog 162 #[ptr bp,.int .i64 ((deep:Int) + 1)] w (eP w B bp bt z (one z d ts) (EV w))):=zh (fun w B bp bt z ts hp=>by
  have:=hO w B bp bt z ts hp
  simpa using this)
 have HNA:=zh (VL deep (by omega) (fun z=>expr z (one z d) 5) hE Ae);have H:=zh h;obtain⟨off,c,nn,kv,tv,c0,c1,c2,c3,hk⟩:=ag1 h;have HK:=zh hk;have hbp:=h.ru;have hwr:=E9 (deep:=deep) (by omega);have hxb : w.heap.size≠bp:=by omega
 have ai3 : decide ((10:Int) < (deep:Int))=false:=decide_eq_false (by omega);have hp1:=h.kept ((ae.refl [] w).alloc (.cells #[.int .i64 kv,str tv,.int .i64 (hd z ts)] 91)) (by simp) (by simp) (by simp);have hb1:=ag.new w #[.int .i64 kv,str tv,.int .i64 (hd z ts)] 91;have hc1:ae [bp] w (w.alloc (.cells #[.int .i64 kv,str tv,.int .i64 (hd z ts)] 91)):=(ae.refl _ _).alloc _;have oh:=zh hp1;have HB1:=zh hb1;have cZ:=zh hc1;have HT1:=zh (kQ [45] _ B bp bt z ts hp1);clear h hE hO Ae hk hp1 hb1 hc1
 go_enter Tryz.func162,Tryz.ntmps162
 go_wp2_with fail
 generalize w.alloc (.cells #[.int .i64 kv,str tv,.int .i64 (hd z ts)] 91)=w1 at *
 cases hm : see [45] ts with
 | true=>
  have HI:=zh hm;clear hm;refine HT1.out.mono ?_;rintro _ w2 ⟨rfl,hp2,hc2,_⟩;rw [HI.out];rw [skip,HI.out,if_pos rfl] at hp2;have Fg:ae [bp] w w2.drew:=(cZ.out.then hc2).drew;have hb2:=(HB1.out.kept hc2 (by simpa using hxb)).kept (ae.refl [] w2).drew (by simp);have pJ : w2.drew.cell? ⟨w.heap.size,2,none⟩=some (.int .i64 (hd z ts)):=hb2.cell 2 _ rfl;have mM:=zh Fg;have HB2:=zh hb2;have iL:=zh (HO.out w2.drew B bp bt z ts.tail (hp2.kept (ae.refl [] w2).drew (by simp) (by simp) (by simp)));clear hp2 hc2 Fg hb2;cases hx : one z d ts.tail with
  | bad en p=>
   have HRR:=zh (show one z (d + 1) ts = .bad en p by rw [sQ,if_pos HI.out,hx]);rw [hx] at iL;clear hx;go_wp2_with fail;refine EZ 5 [true,true,true,true,true] rfl (by kernel_rfl) (by kernel_rfl) rfl ?_
   repeat ((with_reducible show bW _ _ _ _ _ _ _ _);(first|refine aM ?_|refine oP rfl ?_|refine kX rfl rfl (by kernel_rfl) (fun _ _=>?_)|refine qf rfl rfl rfl (by exact⟨_,_,pJ⟩) (fun _ _=>?_));go_wp2_with fail)
   refine iL.out.mono ?_;intro e w6 he;have aW:=zh he;obtain⟨b,rfl⟩:=he.thrown;clear he;intro a' ha;refine⟨ha,?_⟩;rw [HRR.out];exact aW.out.eO mM.out
  | ok x r6=>
   have HRR:=zh (show one z (d + 1) ts = .ok (.un (hd z ts) [45] x) r6 by rw [sQ,if_pos HI.out,hx]);rw [hx] at iL;clear hx;go_wp2_with fail;refine kT [bp] rfl (by kernel_rfl) ?_;have hS:ae [bp] w2.drew w2.drew:=ae.refl _ _
   repeat ((with_reducible refine gX ?_);(first|refine aM ?_|refine sK ?_|refine sM fun _ _=>?_|refine sL (hz:=by exact bZ.of pJ (by simpa using hxb)) fun _ _=>?_|refine sE fun _ _=>?_);go_wp2_with fail)
   refine iL.out.mono ?_;rintro e w6 ⟨hc6,v6,rfl,hv6,dH⟩;obtain⟨b6,rfl⟩:=hv6.ptr;have bI:=zh hc6;have qG:=zh hv6;have iP:=zh dH;have hS2:=hc6;clear hc6 hv6 dH;go_wp2_with fail;refine And.intro (by assumption:ae _ _ _) ?_
   repeat ((with_reducible refine gX ?_);(first|refine aM ?_|refine sK ?_|refine sM fun _ _=>?_|refine sL (hz:=by exact bZ.of pJ (by simpa using hxb)) fun _ _=>?_|refine sE fun _ _=>?_);go_wp2_with fail)
   refine And.intro (ae.alloc (by assumption:ae _ _ _) _) ?_
   repeat ((with_reducible refine gX ?_);(first|refine aM ?_|refine sK ?_|refine sM fun _ _=>?_|refine sL (hz:=by exact bZ.of pJ (by simpa using hxb)) fun _ _=>?_|refine sE fun _ _=>?_);go_wp2_with fail)
   go_ret
   rw [HRR.out];have aO:=(ae.refl [bp] w6).alloc (.cells #[.int .i64 4,.int .i64 (hd z ts),.int .i64 0,str [],str [],str [45],ptr b6,aJ,ah] 192);refine⟨(mM.out.then bI.out).then aO,_,rfl,⟨w6.heap.size,ptr b6,rfl,⟨Nat.le_trans mM.out.size bI.out.size,by simp⟩,ag.new _ _ _,(aY.later qG.out mM.out.size).grown hbp aO⟩,iP.out.kept ((ae.refl [] w6).alloc _) (by simp) (by simp) (by simp)⟩
 | false=>
  have HI1:=zh hm;clear hm;refine HT1.out.mono ?_;rintro _ w2 ⟨rfl,_,_,hw⟩;rw [HI1.out];have hw':=(hw HI1.out).symm;subst hw';clear hw;have HT2:=zh (kQ [110,111,116] _ B bp bt z ts oh.out);cases hm : see [110,111,116] ts with
  | true=>
   have HI:=zh hm;clear hm;go_wp2_with fail;refine HT2.out.mono ?_;rintro _ w2 ⟨rfl,hp2,hc2,_⟩;rw [HI.out];rw [skip,HI.out,if_pos rfl] at hp2;have Fg:ae [bp] w w2.drew:=(cZ.out.then hc2).drew;have hb2:=(HB1.out.kept hc2 (by simpa using hxb)).kept (ae.refl [] w2).drew (by simp);have pJ : w2.drew.cell? ⟨w.heap.size,2,none⟩=some (.int .i64 (hd z ts)):=hb2.cell 2 _ rfl;have mM:=zh Fg;have HB2:=zh hb2;have iL:=zh (HO.out w2.drew B bp bt z ts.tail (hp2.kept (ae.refl [] w2).drew (by simp) (by simp) (by simp)));clear hp2 hc2 Fg hb2;cases hx : one z d ts.tail with
   | bad en p=>
    have HRR:=zh (show one z (d + 1) ts = .bad en p by rw [sQ,if_neg (by rw [HI1.out];simp),if_pos HI.out,hx]);rw [hx] at iL;clear hx;go_wp2_with fail;refine EZ 5 [true,true,true,true,true] rfl (by kernel_rfl) (by kernel_rfl) rfl ?_
    repeat ((with_reducible show bW _ _ _ _ _ _ _ _);(first|refine aM ?_|refine oP rfl ?_|refine kX rfl rfl (by kernel_rfl) (fun _ _=>?_)|refine qf rfl rfl rfl (by exact⟨_,_,pJ⟩) (fun _ _=>?_));go_wp2_with fail)
    refine iL.out.mono ?_;intro e w6 he;have aW:=zh he;obtain⟨b,rfl⟩:=he.thrown;clear he;intro a' ha;refine⟨ha,?_⟩;rw [HRR.out];exact aW.out.eO mM.out
   | ok x r6=>
    have HRR:=zh (show one z (d + 1) ts = .ok (.un (hd z ts) [110,111,116] x) r6 by rw [sQ,if_neg (by rw [HI1.out];simp),if_pos HI.out,hx]);rw [hx] at iL;clear hx;go_wp2_with fail;refine kT [bp] rfl (by kernel_rfl) ?_;have hS:ae [bp] w2.drew w2.drew:=ae.refl _ _
    repeat ((with_reducible refine gX ?_);(first|refine aM ?_|refine sK ?_|refine sM fun _ _=>?_|refine sL (hz:=by exact bZ.of pJ (by simpa using hxb)) fun _ _=>?_|refine sE fun _ _=>?_);go_wp2_with fail)
    refine iL.out.mono ?_;rintro e w6 ⟨hc6,v6,rfl,hv6,dH⟩;obtain⟨b6,rfl⟩:=hv6.ptr;have bI:=zh hc6;have qG:=zh hv6;have iP:=zh dH;have hS2:=hc6;clear hc6 hv6 dH;go_wp2_with fail;refine And.intro (by assumption:ae _ _ _) ?_
    repeat ((with_reducible refine gX ?_);(first|refine aM ?_|refine sK ?_|refine sM fun _ _=>?_|refine sL (hz:=by exact bZ.of pJ (by simpa using hxb)) fun _ _=>?_|refine sE fun _ _=>?_);go_wp2_with fail)
    refine And.intro (ae.alloc (by assumption:ae _ _ _) _) ?_
    repeat ((with_reducible refine gX ?_);(first|refine aM ?_|refine sK ?_|refine sM fun _ _=>?_|refine sL (hz:=by exact bZ.of pJ (by simpa using hxb)) fun _ _=>?_|refine sE fun _ _=>?_);go_wp2_with fail)
    go_ret
    rw [HRR.out];have aO:=(ae.refl [bp] w6).alloc (.cells #[.int .i64 4,.int .i64 (hd z ts),.int .i64 0,str [],str [],str [110,111,116],ptr b6,aJ,ah] 192);refine⟨(mM.out.then bI.out).then aO,_,rfl,⟨w6.heap.size,ptr b6,rfl,⟨Nat.le_trans mM.out.size bI.out.size,by simp⟩,ag.new _ _ _,(aY.later qG.out mM.out.size).grown hbp aO⟩,iP.out.kept ((ae.refl [] w6).alloc _) (by simp) (by simp) (by simp)⟩
  | false=>
   have HI2:=zh hm;clear hm;go_wp2_with fail;refine HT2.out.mono ?_;rintro _ w2 ⟨rfl,_,_,hw⟩;rw [HI2.out];have hw':=(hw HI2.out).symm;subst hw';clear hw;have HT3:=zh (kQ [40] _ B bp bt z ts oh.out);cases hm : see [40] ts with
   | true=>
    have HI:=zh hm;clear hm;go_wp2_with fail;refine HT3.out.mono ?_;rintro _ w2 ⟨rfl,hp2,hc2,_⟩;rw [HI.out];rw [skip,HI.out,if_pos rfl] at hp2;have mM:=zh (cZ.out.then hc2);have HE2:=zh (nI.out w2 B bp bt z ts.tail hp2);clear hp2 hc2;go_wp2_with fail;refine HE2.out.mono ?_;intro e w6 he;rcases he.part with⟨en,p,b,rfl,hx,aW⟩|⟨x,r6,hx,he⟩
    ·go_wp2_with fail;exact⟨rfl,by rw [show one z (d + 1) ts = .bad en p by rw [sQ,if_neg (by rw [HI1.out];simp),if_neg (by rw [HI2.out];simp),if_pos HI.out,hx.out]];exact aW.out.eO mM.out⟩
    have HX:=hx;obtain⟨hc6,v6,rfl,hv6,dH⟩:=he;clear hx;have VT:=zh (mM.out.then hc6);have qG:=zh (aY.later hv6 mM.out.size);have iy:=zh (gN [41] w6 B bp bt z r6 dH);clear hc6 hv6 dH;go_wp2_with fail;cases h8 : see [41] r6 with
    | false=>
     have HRR:=zh (show one z (d + 1) ts = .bad 3 (hd z r6) by rw [sQ,if_neg (by rw [HI1.out];simp),if_neg (by rw [HI2.out];simp),if_pos HI.out,HX.out];simp [must,h8]);rw [must,h8,if_neg (by simp)] at iy;clear h8;refine iy.out.mono ?_;intro e w8 he;have aW:=zh he;obtain⟨b,rfl⟩:=he.thrown;clear he;go_wp2_with fail;refine⟨rfl,?_⟩;rw [HRR.out];exact aW.out.eO VT.out
    | true=>
     have HRR:=zh (show one z (d + 1) ts = .ok x r6.tail by rw [sQ,if_neg (by rw [HI1.out];simp),if_neg (by rw [HI2.out];simp),if_pos HI.out,HX.out];simp [must,h8]);rw [must,h8,if_pos rfl] at iy;clear h8;refine iy.out.mono ?_;rintro e w8 ⟨hc8,_,rfl,rfl,mH⟩;have eU:=zh hc8;have vV:=zh mH;clear hc8 mH;go_wp2_with fail;go_ret
     rw [HRR.out];exact⟨VT.out.then eU.out,_,rfl,qG.out.grown hbp eU.out,vV.out⟩
   | false=>
    have HI3:=zh hm;clear hm;go_wp2_with fail;refine HT3.out.mono ?_;rintro _ w2 ⟨rfl,_,_,hw⟩;rw [HI3.out];have hw':=(hw HI3.out).symm;subst hw';clear hw;have e0 : w1.cell? ⟨w.heap.size,0,none⟩=some (.int .i64 kv):=HB1.out.cell 0 _ rfl;cases hn : isNum ts with
    | true=>
     have HI:=zh hn;have hk2 : (kv == 2)=true:=by rw [HK.out];exact hn
     have pJ : w1.drew.cell? ⟨w.heap.size,2,none⟩=some (.int .i64 (hd z ts)):=HB1.out.cell 2 _ rfl;have mM:=zh (cZ.out.drew);have iL:=zh (VE 9223372036854775807 w1.drew B bp bt z ts (oh.out.kept (ae.refl [] w1).drew (by simp) (by simp) (by simp)));clear hn;cases hx : number z 9223372036854775807 ts with
     | bad en p=>
      have HRR:=zh (show one z (d + 1) ts = .bad en p by rw [sQ,if_neg (by rw [HI1.out];simp),if_neg (by rw [HI2.out];simp),if_neg (by rw [HI3.out];simp),if_pos HI.out,hx]);rw [hx] at iL;clear hx;go_wp2_with fail;refine EZ 3 [true,true,true] rfl (by kernel_rfl) (by kernel_rfl) rfl ?_
      repeat ((with_reducible show bW _ _ _ _ _ _ _ _);(first|refine aM ?_|refine oP rfl ?_|refine kX rfl rfl (by kernel_rfl) (fun _ _=>?_)|refine qf rfl rfl rfl (by exact⟨_,_,pJ⟩) (fun _ _=>?_));go_wp2_with fail)
      refine iL.out.mono ?_;intro e w6 he;have aW:=zh he;obtain⟨b,rfl⟩:=he.thrown;clear he;intro a' ha;refine⟨ha,?_⟩;rw [HRR.out];exact aW.out.eO mM.out
     | ok x r6=>
      have HRR:=zh (show one z (d + 1) ts = .ok (.num (hd z ts) x) r6 by rw [sQ,if_neg (by rw [HI1.out];simp),if_neg (by rw [HI2.out];simp),if_neg (by rw [HI3.out];simp),if_pos HI.out,hx]);rw [hx] at iL;clear hx;go_wp2_with fail;refine kT [bp] rfl (by kernel_rfl) ?_;have hS:ae [bp] w1.drew w1.drew:=ae.refl _ _
      repeat ((with_reducible refine gX ?_);(first|refine aM ?_|refine sK ?_|refine sM fun _ _=>?_|refine sL (hz:=by exact bZ.of pJ (by simpa using hxb)) fun _ _=>?_|refine sE fun _ _=>?_);go_wp2_with fail)
      refine iL.out.mono ?_;rintro e w6 ⟨hc6,_,rfl,rfl,dH⟩;have bI:=zh hc6;have iP:=zh dH;have hS2:=hc6;clear hc6 dH;go_wp2_with fail;refine And.intro (by assumption:ae _ _ _) ?_
      repeat ((with_reducible refine gX ?_);(first|refine aM ?_|refine sK ?_|refine sM fun _ _=>?_|refine sL (hz:=by exact bZ.of pJ (by simpa using hxb)) fun _ _=>?_|refine sE fun _ _=>?_);go_wp2_with fail)
      refine And.intro (ae.alloc (by assumption:ae _ _ _) _) ?_
      repeat ((with_reducible refine gX ?_);(first|refine aM ?_|refine sK ?_|refine sM fun _ _=>?_|refine sL (hz:=by exact bZ.of pJ (by simpa using hxb)) fun _ _=>?_|refine sE fun _ _=>?_);go_wp2_with fail)
      go_ret
      rw [HRR.out];have aO:=(ae.refl [bp] w6).alloc (.cells #[.int .i64 1,.int .i64 (hd z ts),.int .i64 x,str [],str [],str [],aJ,aJ,ah] 192);refine⟨(mM.out.then bI.out).then aO,_,rfl,⟨w6.heap.size,rfl,⟨Nat.le_trans mM.out.size bI.out.size,by simp⟩,ag.new _ _ _⟩,iP.out.kept ((ae.refl [] w6).alloc _) (by simp) (by simp) (by simp)⟩
    | false=>
     have HI:=zh hn;have hk2 : (kv == 2)=false:=by rw [HK.out];exact hn
     have I4:=zh (HNA.out w1 B bp bt z ts oh.out);have HRR:=zh (show one z (d + 1) ts=named z (expr z (one z d) 5) ts by rw [sQ,if_neg (by rw [HI1.out];simp),if_neg (by rw [HI2.out];simp),if_neg (by rw [HI3.out];simp),if_neg (by rw [HI.out];simp)]);clear hn;cases hx : named z (expr z (one z d) 5) ts with
     | bad en p=>
      rw [hx] at HRR;rw [hx] at I4;clear hx;go_wp2_with fail;refine I4.out.mono ?_;intro e w6 he;have aW:=zh he;obtain⟨b,rfl⟩:=he.thrown;clear he;go_wp2_with fail;refine⟨rfl,?_⟩;rw [HRR.out];exact aW.out.eO cZ.out
     | ok x r6=>
      rw [hx] at HRR;rw [hx] at I4;clear hx;go_wp2_with fail;refine I4.out.mono ?_;rintro e w6 ⟨hc6,v6,rfl,hv6,dH⟩;have bI:=zh hc6;have qG:=zh hv6;have iP:=zh dH;clear hc6 hv6 dH;go_wp2_with fail;go_ret
      rw [HRR.out];exact⟨cZ.out.then bI.out,_,rfl,aY.later qG.out cZ.out.size,iP.out⟩
theorem ag5 : ∀ d deep,deep + d=11→BX deep d:=by
 intro d
 induction d with
 | zero=>intro deep h;rw [show deep=11 by omega];exact ag2
 | succ d ih=>exact fun deep h=>ag3 deep d h (ih (deep + 1) (by omega))
theorem VU (deep d:Nat) (h : deep + d=11):uD 0 deep (fun z=>expr z (one z d) 5):=VJ deep d (ag5 d deep h) (fun z=>(Cg z d).mono) (by omega) 5 (Nat.le_refl _)
end Go.Proofs.YtechofppmnnomaaGreatDoor
namespace Go.Mq.Tree
open Go Go.RowKit Go.Mq
def lU {α:Type} (w:World) (B bp bs' bt z:Nat) (r:R α) (V:World→α→Prop) (e:Ending) (w':World):Prop:=ae [bp,bs'] w w'∧match r with
 | .ok a ts=>e = .returned (.tuple #[])∧V w' a∧bQ w' B bp bt z ts
 | .bad en p=>∃ b,e = .panicked [{ v:=.iface 81 (.agg #[.iface 140 (ptr b)]),recovered:=false }]∧w.heap.size≤b∧ag w' b #[.int .i64 en,.int .i64 p] 142
theorem lU.part {α:Type} {w w2:World} {B bp bs' bt z:Nat} {o:R α} {V:World→α→Prop} {e:Ending} (h:lU w B bp bs' bt z o V e w2) :
  (∃ en q b,e = .panicked [{ v:=.iface 81 (.agg #[.iface 140 (ptr b)]),recovered:=false }]∧Hid (o = .bad en q)∧Hid (lU w B bp bs' bt z (.bad en q:R α) V (.panicked [{ v:=.iface 81 (.agg #[.iface 140 (ptr b)]),recovered:=false }]) w2)) ∨
  ∃ a r,Hid (o = .ok a r)∧lU w B bp bs' bt z (.ok a r) V e w2:=by
 cases o with
 | bad en q=>obtain⟨hc,b,rfl,hb⟩:=h;exact .inl ⟨en,q,b,rfl,zh rfl,zh ⟨hc,b,rfl,hb⟩⟩
 | ok a r=>exact .inr ⟨a,r,zh rfl,h⟩
theorem lU.cut {α:Type} {w w2:World} {B bp bs' bt z:Nat} {o:R α} {V:World→α→Prop} {e:Ending} (h:lU w B bp bs' bt z o V e w2) :
  (∃ en q b,e = .panicked [{ v:=.iface 81 (.agg #[.iface 140 (ptr b)]),recovered:=false }]∧Hid (o = .bad en q)∧Hid (ae [bp,bs'] w w2∧w.heap.size≤b∧ag w2 b #[.int .i64 en,.int .i64 q] 142)) ∨
  ∃ a r,e = .returned (.tuple #[])∧Hid (o = .ok a r)∧V w2 a∧ae [bp,bs'] w w2∧bQ w2 B bp bt z r:=by
 cases o with
 | bad en q=>
  obtain⟨hc,b,he,hb,hB⟩:=h;exact .inl ⟨en,q,b,he,zh rfl,zh ⟨hc,hb,hB⟩⟩
 | ok a r=>
  obtain⟨hc,he,hv,hp⟩:=h;exact .inr ⟨a,r,he,zh rfl,hv,hc,hp⟩
abbrev yx (w w':World):Nat→Prop:=fun b=>w.heap.size + 2≤b∧b < w'.heap.size
theorem Ch (l:List (List UInt8)) (v:Value):jb (fun w F=>eF w F l v):=⟨fun hF h=>h.mono hF,fun hc hS h=>h.kept hc hS⟩
theorem NF (s:S) (v:Value):jb (fun w F=>fT w F s v):=⟨fun hF h=>h.mono hF,fun hc hS h=>h.kept hc hS⟩
theorem NG:jb (fun _ _=>True):=⟨fun _ h=>h,fun _ _ h=>h⟩
theorem jb.and {Q Q':World→(Nat→Prop)→Prop} (h:jb Q) (h':jb Q'):jb (fun w F=>Q w F∧Q' w F):=⟨fun hF x=>⟨h.mono hF x.1,h'.mono hF x.2⟩,fun hc hS x=>⟨h.kept hc hS x.1,h'.kept hc hS x.2⟩⟩
structure Mk (T:TypeId) (w wk:World) (B bp bt z:Nat) (tk:List Tok) (zs cs:Array Value) (Q:World→(Nat→Prop)→Prop):Prop where
 fr:jb Q
 hbp : bp < w.heap.size
 hbt : bt < w.heap.size
 aP:ae [bp] w wk
 par:bQ wk B bp bt z tk
 blk:ag wk (w.heap.size + 1) cs T
 res:ag wk w.heap.size zs T
 sz : w.heap.size + 2≤wk.heap.size
 q:Q wk (yx w wk)
section
variable {T:TypeId} {w wk w':World} {B bp bt z:Nat} {tk t':List Tok} {zs cs:Array Value} {Q Q':World→(Nat→Prop)→Prop}
theorem Mk.step (h:Mk T w wk B bp bt z tk zs cs Q) (hc:ae [bp] wk w') (hp:bQ w' B bp bt z t'):Mk T w w' B bp bt z t' zs cs Q:=
 ⟨h.fr,h.hbp,h.hbt,h.aP.then hc,hp,h.blk.kept hc (by have:=h.hbp;simp;omega),h.res.kept hc (by have:=h.hbp;simp;omega),Nat.le_trans h.sz hc.size,
  h.fr.mono (fun x hx=>⟨hx.1,Nat.lt_of_lt_of_le hx.2 hc.size⟩) (h.fr.kept hc (fun x hx hn=>by have:=h.hbp;simp at hx;have:=hn.1;omega) h.q)⟩
theorem Mk.add (h:Mk T w wk B bp bt z tk zs cs Q) (hf:jb Q') (hq:Q' wk (yx w wk)):Mk T w wk B bp bt z tk zs cs (fun w F=>Q w F∧Q' w F):=
 ⟨h.fr.and hf,h.hbp,h.hbt,h.aP,h.par,h.blk,h.res,h.sz,h.q,hq⟩
theorem Mk.call (h:Mk T w wk B bp bt z tk zs cs Q) (hc:ae [bp] wk w') (hp:bQ w' B bp bt z t') (hf:jb Q') (hq:Q' w' (New wk w')):Mk T w w' B bp bt z t' zs cs (fun w F=>Q w F∧Q' w F):=
 (h.step hc hp).add hf (hf.mono (fun _ hx=>⟨Nat.le_trans h.sz hx.1,hx.2⟩) hq)
theorem Mk.store (h:Mk T w wk B bp bt z tk zs cs Q) (i:Nat) (v:Value):Mk T w (wk.setCell ⟨w.heap.size + 1,i,none⟩ v) B bp bt z tk zs (cs.setIfInBounds i v) Q:=by
 have hc:ae [w.heap.size + 1] wk (wk.setCell ⟨w.heap.size + 1,i,none⟩ v):=ae.set1 _ _ _ _;have h1:=h.hbp;have h2:=h.hbt;have h3:=h.par.laid.le;have h4:=h.par.Ak;exact⟨h.fr,h1,h2,h.aP.trans hc (fun x hx=>.inr (by simp at hx;omega)),h.par.kept hc (fun x hx=>by simp at hx;omega) (by simp;omega) (by simp;omega),h.blk.set i v,h.res.kept hc (by simp),Nat.le_trans h.sz hc.size,
  h.fr.mono (fun x hx=>⟨hx.1,Nat.lt_of_lt_of_le hx.2 hc.size⟩) (h.fr.kept hc (fun x hx hn=>by simp at hx;have:=hn.1;omega) h.q)⟩
theorem Mk.fin (h:Mk T w wk B bp bt z tk zs cs Q) (hc:ae [w.heap.size] wk w'):Q w' (New w w'):=
 h.fr.mono (fun x hx=>⟨by have:=hx.1;omega,Nat.lt_of_lt_of_le hx.2 hc.size⟩) (h.fr.kept hc (fun x hx hn=>by simp at hx;have:=hn.1;omega) h.q)
end
theorem Mk.loop {T:TypeId} {w wk w':World} {B bp bt z:Nat} {tk t':List Tok} {zs cs cs':Array Value} {Q:World→(Nat→Prop)→Prop} (h:Mk T w wk B bp bt z tk zs cs Q) (hc:ae [bp,w.heap.size + 1] wk w') (hp:bQ w' B bp bt z t') (hb:ag w' (w.heap.size + 1) cs' T):Mk T w w' B bp bt z t' zs cs' Q:=
 ⟨h.fr,h.hbp,h.hbt,h.aP.trans hc (fun x hx=>by simp at hx;rcases hx with rfl|rfl;exact .inl (by simp);exact .inr (by omega)),hp,hb,h.res.kept hc (by have:=h.hbp;simp;omega),Nat.le_trans h.sz hc.size,
  h.fr.mono (fun x hx=>⟨hx.1,Nat.lt_of_lt_of_le hx.2 hc.size⟩) (h.fr.kept hc (fun x hx hn=>by have:=h.hbp;simp at hx;have:=hn.1;omega) h.q)⟩
theorem Mk.bad {T:TypeId} {w wk w2:World} {B bp bt z:Nat} {tk:List Tok} {zs cs:Array Value} {Q:World→(Nat→Prop)→Prop} {β:Type} {o:R β} {V:World→β→Value→Prop} {en q b:Nat} (h:Mk T w wk B bp bt z tk zs cs Q) (hE:ae [bp,w.heap.size + 1] wk w2∧wk.heap.size≤b∧ag w2 b #[.int .i64 en,.int .i64 q] 142) (e : o = .bad en q) :
  eP w B bp bt z o V (.panicked [{ v:=.iface 81 (.agg #[.iface 140 (ptr b)]),recovered:=false }]) w2:=by
 subst e;exact⟨h.aP.trans hE.1 (fun x hx=>by simp at hx;rcases hx with rfl|rfl;exact .inl (by simp);exact .inr (by omega)),b,rfl,Nat.le_trans h.aP.size hE.2.1,hE.2.2⟩
end Go.Mq.Tree
namespace Go.Mq.Tree
open Go Go.RowKit Go.Mq
theorem s1 {a b:World} {bp bs':Nat} (h:ae [bp] a b):ae [bp,bs'] a b:=h.mono fun x hx=>.inl (by simp at hx;simp [hx])
theorem s2 {a b:World} {bp bs':Nat} (h:ae [bs'] a b):ae [bp,bs'] a b:=h.mono fun x hx=>.inl (by simp at hx;simp [hx])
theorem eP.vW {α β:Type} {w w1 w2:World} {B bp bs' bt z en p:Nat} {V:World→α→Value→Prop} {V':World→β→Prop} {e:Ending} (h:eP w1 B bp bt z (.bad en p:R α) V e w2) (hc:ae [bp,bs'] w w1):lU w B bp bs' bt z (.bad en p:R β) V' e w2:=by
 obtain⟨hc2,b,he,hb,hB⟩:=h;exact⟨hc.then (s1 hc2),b,he,Nat.le_trans hc.size hb,hB⟩
theorem lU.vW {α β:Type} {w w1 w2:World} {B bp bs' bt z en p:Nat} {V:World→α→Prop} {V':World→β→Prop} {e:Ending} (h:lU w1 B bp bs' bt z (.bad en p:R α) V e w2) (hc:ae [bp,bs'] w w1):lU w B bp bs' bt z (.bad en p:R β) V' e w2:=by
 obtain⟨hc2,b,he,hb,hB⟩:=h;exact⟨hc.then hc2,b,he,Nat.le_trans hc.size hb,hB⟩
theorem lU.thrown {α:Type} {w w2:World} {B bp bs' bt z en p:Nat} {V:World→α→Prop} {e:Ending} (h:lU w B bp bs' bt z (.bad en p:R α) V e w2) : ∃ b,e = .panicked [{ v:=.iface 81 (.agg #[.iface 140 (ptr b)]),recovered:=false }]:=by
 obtain⟨_,b,he,_⟩:=h;exact⟨b,he⟩
theorem VV {z:Nat} {ex:Ps E} {ts r:List Tok} {e:E} (h : named z ex ts = .ok e r) : (∃ p m n,e = .var p m n)∨(∃ p m n i,e = .item p m n i)∨(∃ p m n l,e = .app p m n l):=by
 rw [Cc] at h;cases h1 : pQ z ts with
 | bad en q=>rw [h1] at h;cases h
 | ok q r1=>
  rw [h1] at h;simp only [ry] at h;split at h
  ·cases h2 : ex r1.tail with
   | bad en q=>rw [h2] at h;cases h
   | ok i r2=>
    simp only [h2] at h;cases h3 : must z [93] r2 with
    | bad en q=>simp only [h3] at h;cases h
    | ok u r3=>simp only [h3] at h;cases h;exact .inr (.inl ⟨_,_,_,_,rfl⟩)
  ·split at h
   ·cases h2 : jc z ex (r1.length + 1) true [] r1.tail with
    | bad en q=>simp only [h2] at h;cases h
    | ok l r2=>simp only [h2] at h;cases h;exact .inr (.inr ⟨_,_,_,_,rfl⟩)
   ·cases h;exact .inl ⟨_,_,_,rfl⟩
abbrev kC (p:Nat):Array Value:=#[.int .i64 0,.int .i64 p,str [],aJ,aJ,ah,ah]
def NH (w:World) (F:Nat→Prop) (bs':Nat) (s:S):Prop:=∃ cs,ag w bs' cs.toArray 168∧dJ w F s cs
end Go.Mq.Tree
namespace Go.Proofs.YtechofppmnnomaaGreatDoor
open Go Go.RowKit Go.Mq Go.Mq.Tree
set_option maxRecDepth 100000
set_option maxHeartbeats 8000000
theorem Fh : ∀ (w:World) (B bp bt z:Nat) (ts:List Tok),bQ w B bp bt z ts→Calls Tryz.prog 136 #[ptr bp,.int .i64 0,.int .i64 0] w (eP w B bp bt z (iA z ts) (EV w)):=fun w B bp bt z ts hp=>by
 have:=VU 0 11 rfl w B bp bt z ts hp
 simpa [iA] using this
theorem ag6 : ∀ (w:World) (B bp bt z:Nat) (ts:List Tok),bQ w B bp bt z ts→Calls Tryz.prog 164 #[ptr bp,.int .i64 0] w (eP w B bp bt z (named z (expr z (one z 10) 5) ts) (EV w)):=fun w B bp bt z ts hp=>by
 have:=VL 0 (by omega) (fun z=>expr z (one z 10) 5) (VU 1 10 rfl) (fun z=>BV (Cg z 10) 5) w B bp bt z ts hp
 simpa using this
theorem ag7 (p:Nat) (w:World) (B bp bs' bt z:Nat) (ts:List Tok) (h:bQ w B bp bt z ts) (hbs:ag w bs' (kC p) 168) (hB':B≤bs') (hne : bs'≠bp) (hnt : bs'≠bt) :
  Calls Tryz.prog 137 #[ptr bp,ptr bs'] w (lU w B bp bs' bt z (first z p ts) (fun w' s=>NH w' (New w w') bs' s)):=by
 have HN:=zh (ag6 w B bp bt z ts h);have H:=zh h;have hbp:=h.ru;have hbl:=hbs.lt;have jP:=zh (And.intro hbs (And.intro hB' (And.intro hne hnt)));clear h hbs;cases hx : named z (expr z (one z 10) 5) ts with
 | bad en q=>
  have HRR:=zh (show first z p ts = .bad en q by rw [first,hx]);rw [hx] at HN;clear hx
  go_enter Tryz.func137,Tryz.ntmps137
  go_wp2_with fail;refine HN.out.mono ?_;intro e w1 he;have aW:=zh he;obtain⟨b,rfl⟩:=he.thrown;clear he;go_wp2_with fail;refine⟨rfl,?_⟩;rw [HRR.out];exact aW.out.vW (ae.refl _ _)
 | ok e r=>
  have HX:=zh hx;rw [hx] at HN;clear hx
  go_enter Tryz.func137,Tryz.ntmps137
  go_wp2_with fail;refine HN.out.mono ?_;rintro e w1 ⟨hc1,v1,rfl,hv1,hp1⟩;have cZ:=zh hc1;have oh:=zh hp1;have hb1:=jP.out.1.kept hc1 (by simpa using hne);rcases VV HX.out with⟨q,m,n,rfl⟩|⟨q,m,n,i,rfl⟩|⟨q,m,n,l,rfl⟩
  focus
   obtain⟨b,he,hF,hb⟩:=hv1;obtain⟨o,u,sU,ma,d6⟩ : ∃ (o:Option E) (u:Option Addr),Hid (first z p ts=(if m≠[] then .bad 3 (hd z r) else match must z [58,61] r with | .bad e q=>.bad e q | .ok _ r2=>match iA z r2 with | .bad e q=>.bad e q | .ok v r3=>.ok (.set p n o v .nil) r3))∧Hid (ow w1 (New w w1) o (.pointer u))∧w1.cell? ⟨b,6,none⟩=some (.pointer u):=⟨none,none,zh (by rw [first,HX.out];rfl),zh rfl,hb.cell 6 _ rfl⟩
   cases he
   have d0:=hb.cell 0 _ rfl;have d3:=hb.cell 3 _ rfl;have d4:=hb.cell 4 _ rfl;clear hb
  rotate_left
  focus
   obtain⟨b,ui,he,hF,hb,hi⟩:=hv1;obtain⟨bu,rfl⟩:=hi.ptr;obtain⟨o,u,sU,ma,d6⟩ : ∃ (o:Option E) (u:Option Addr),Hid (first z p ts=(if m≠[] then .bad 3 (hd z r) else match must z [58,61] r with | .bad e q=>.bad e q | .ok _ r2=>match iA z r2 with | .bad e q=>.bad e q | .ok v r3=>.ok (.set p n o v .nil) r3))∧Hid (ow w1 (New w w1) o (.pointer u))∧w1.cell? ⟨b,6,none⟩=some (.pointer u):=⟨some i,some ⟨bu,0,none⟩,zh (by rw [first,HX.out];rfl),zh hi,hb.cell 6 _ rfl⟩
   cases he
   have d0:=hb.cell 0 _ rfl;have d3:=hb.cell 3 _ rfl;have d4:=hb.cell 4 _ rfl;clear hb hi
  rotate_left
  ·
   have HRR:=zh (show first z p ts = .ok (.call p (.app q m n l) .nil) r by rw [first,HX.out]);have ma:=zh hv1;obtain⟨b,a,c,vs,he,hF,hb,_⟩:=hv1;cases he
   have d0:=hb.cell 0 _ rfl;have f0:=hb1.frozen 0;have f4:=hb1.frozen 4;have e0:=hb1.cell 0 _ rfl;have e4:=hb1.cell 4 _ rfl;have hb2:=(hb1.set 0 (.int .i64 6)).set 4 (ptr b);have hc2:ae [bs'] w1 ((w1.setCell ⟨bs',0,none⟩ (.int .i64 6)).setCell ⟨bs',4,none⟩ (ptr b)):=(ae.set1 _ _ _ _).then (ae.set1 _ _ _ _)
   have HB2:=zh hb2;have aD:=zh hc2;clear hc1 hp1 hb1 hb hb2 hc2;go_wp2_with fail;refine bodyPost_ret (results_none rfl _ _ _) rfl ?_;rw [HRR.out];refine⟨(s1 cZ.out).then (s2 aD.out),rfl,⟨_,by simpa using HB2.out,ptr b,[],rfl,?_,rfl⟩,oh.out.kept aD.out (fun x hx=>by simp at hx;omega) (by simpa using Ne.symm hne) (by simpa using Ne.symm hnt)⟩;exact(ma.out.kept aD.out (fun x hx hn=>by simp at hx;have:=hn.1;omega)).mono (fun x hx=>⟨hx.1,Nat.lt_of_lt_of_le hx.2 aD.out.size⟩)
  all_goals
   have NI:ag w1 bs' (kC p) 168:=hb1;have hbne : b≠bs':=by have:=hF.1;omega
   cases hme : m.isEmpty with
   | false=>
    have HRR:=zh (show first z p ts = .bad 3 (hd z r) by rw [sU.out,if_pos (by intro h;rw [h] at hme;cases hme)]);have pY:=zh (lF 3 w1 B bp bt z r oh.out);clear hp1 hc1 hb1 NI;go_wp2_with fail;refine pY.out.mono ?_;intro e w6 he;have aW:=zh he;obtain⟨b9,rfl⟩:=he.thrown;clear he;go_wp2_with fail;refine⟨rfl,?_⟩;rw [HRR.out];exact aW.out.vW (s1 cZ.out)
   | true=>
    have NJ:Hid (m=[]):=zh (List.isEmpty_iff.1 hme);have HB1:=zh NI;clear hp1 hc1 hb1 NI;go_wp2_with fail;refine kT [bs'] rfl (by kernel_rfl) ?_;have hS:ae [bs'] w1.drew w1.drew:=ae.refl _ _;have VW : w1.drew.cell? ⟨b,4,none⟩=some (str n):=d4;have d6' : w1.drew.cell? ⟨b,6,none⟩=some (.pointer u):=d6;have hz:bZ [bs'] w1.drew b:=bZ.of VW (by simpa using hbne);have f0 : w1.drew.frozen? ⟨bs',0,none⟩=false:=HB1.out.frozen 0;have f2 : w1.drew.frozen? ⟨bs',2,none⟩=false:=HB1.out.frozen 2;have f3 : w1.drew.frozen? ⟨bs',3,none⟩=false:=HB1.out.frozen 3;have e0 : w1.drew.cell? ⟨bs',0,none⟩=some (.int .i64 0):=HB1.out.cell 0 _ rfl;have e2 : w1.drew.cell? ⟨bs',2,none⟩=some (str []):=HB1.out.cell 2 _ rfl;have e3 : w1.drew.cell? ⟨bs',3,none⟩=some aJ:=HB1.out.cell 3 _ rfl;have g2 : w1.frozen? ⟨bs',2,none⟩=false:=f2;have g3 : w1.frozen? ⟨bs',3,none⟩=false:=f3;have g0 : w1.frozen? ⟨bs',0,none⟩=false:=f0;have h2 : w1.cell? ⟨bs',2,none⟩=some (str []):=e2;have h3 : w1.cell? ⟨bs',3,none⟩=some aJ:=e3
    repeat ((with_reducible refine gX ?_);(first|refine aM ?_|refine sK ?_|refine sM fun _ _=>?_|refine sL (hz:=by exact hz) fun _ _=>?_|refine sE fun _ _=>?_);go_wp2_with fail)
    refine⟨hS.setCell ⟨bs',0,none⟩ (.inl (by simp)) (.int .i64 1),?_⟩
    repeat ((with_reducible refine gX ?_);(first|refine aM ?_|refine sK ?_|refine sM fun _ _=>?_|refine sL (hz:=by exact hz) fun _ _=>?_|refine sE fun _ _=>?_);go_wp2_with fail)
    refine⟨(hS.setCell ⟨bs',0,none⟩ (.inl (by simp)) (.int .i64 1)).setCell ⟨bs',2,none⟩ (.inl (by simp)) (str n),?_⟩
    repeat ((with_reducible refine gX ?_);(first|refine aM ?_|refine sK ?_|refine sM fun _ _=>?_|refine sL (hz:=by exact hz) fun _ _=>?_|refine sE fun _ _=>?_);go_wp2_with fail)
    refine⟨((hS.setCell ⟨bs',0,none⟩ (.inl (by simp)) (.int .i64 1)).setCell ⟨bs',2,none⟩ (.inl (by simp)) (str n)).setCell ⟨bs',3,none⟩ (.inl (by simp)) (.pointer u),?_⟩
    repeat ((with_reducible refine gX ?_);(first|refine aM ?_|refine sK ?_|refine sM fun _ _=>?_|refine sL (hz:=by exact hz) fun _ _=>?_|refine sE fun _ _=>?_);go_wp2_with fail)
    have hw3:ae [bs'] w1 (((w1.setCell ⟨bs',0,none⟩ (.int .i64 1)).setCell ⟨bs',2,none⟩ (str n)).setCell ⟨bs',3,none⟩ (.pointer u)).drew:=(((ae.set1 w1 bs' 0 (.int .i64 1)).setCell ⟨bs',2,none⟩ (.inl (by simp)) (str n)).setCell ⟨bs',3,none⟩ (.inl (by simp)) (.pointer u)).drew;have hb3:=(((HB1.out.set 0 (.int .i64 1)).set 2 (str n)).set 3 (.pointer u)).kept ((ae.refl [] _).drew) (by simp);simp only [Array.setIfInBounds,List.size_toArray,List.length_cons,List.length_nil] at hb3;clear hS VW d6' hz f0 f2 f3 e0 e2 e3 g0 g2 g3 h2 h3
    generalize (((w1.setCell ⟨bs',0,none⟩ (.int .i64 1)).setCell ⟨bs',2,none⟩ (str n)).setCell ⟨bs',3,none⟩ (.pointer u)).drew=w3 at *
    have HW3:=zh hw3;have HB3:=zh hb3;have hp3:=oh.out.kept hw3 (fun x hx=>by simp at hx;omega) (by simpa using Ne.symm hne) (by simpa using Ne.symm hnt);have iy:=zh (gN [58,61] w3 B bp bt z r hp3);clear hw3 hb3 hp3;go_wp2_with fail;cases h8 : see [58,61] r with
    | false=>
     have HRR:=zh (show first z p ts = .bad 3 (hd z r) by rw [sU.out,if_neg (by simp [NJ.out])];simp [must,h8]);rw [must,h8,if_neg (by simp)] at iy;clear h8;refine iy.out.mono ?_;intro e w8 he;have aW:=zh he;obtain⟨b9,rfl⟩:=he.thrown;clear he;go_wp2_with fail;refine⟨rfl,?_⟩;rw [HRR.out];exact aW.out.vW ((s1 cZ.out).then (s2 HW3.out))
    | true=>
     rw [must,h8,if_pos rfl] at iy;refine iy.out.mono ?_;rintro e w4 ⟨hc4,_,rfl,rfl,gz⟩;have cz:=zh hc4;have og:=zh gz;have tY:=zh (Fh w4 B bp bt z r.tail gz);clear hc4 gz;cases hx : iA z r.tail with
     | bad en q=>
      have HRR:=zh (show first z p ts = .bad en q by rw [sU.out,if_neg (by simp [NJ.out])];simp [must,h8,hx]);rw [hx] at tY;clear h8 hx;go_wp2_with fail;refine tY.out.mono ?_;intro e w6 he;have aW:=zh he;obtain⟨b9,rfl⟩:=he.thrown;clear he;go_wp2_with fail;refine⟨rfl,?_⟩;rw [HRR.out];exact aW.out.vW (((s1 cZ.out).then (s2 HW3.out)).then (s1 cz.out))
     | ok v r6=>
      have HRR:=zh (show first z p ts = .ok (.set p n o v .nil) r6 by rw [sU.out,if_neg (by simp [NJ.out])];simp [must,h8,hx]);rw [hx] at tY;clear h8 hx;go_wp2_with fail;refine tY.out.mono ?_;rintro e w6 ⟨hc6,v6,rfl,hv6,dH⟩;obtain⟨b6,rfl⟩:=hv6.ptr;have bI:=zh hc6;have qG:=zh hv6;have iP:=zh dH;have hb6:=(HB3.out.kept cz.out (by simpa using hne)).kept hc6 (by simpa using hne);have f4:=hb6.frozen 4;have e4:=hb6.cell 4 _ rfl;have dR:=hb6.set 4 (ptr b6);have dQ:ae [bs'] w6 (w6.setCell ⟨bs',4,none⟩ (ptr b6)):=ae.set1 _ _ _ _;have rz:=zh dR;have fF:=zh dQ;clear hc6 hv6 dH hb6 dR dQ;go_wp2_with fail;refine bodyPost_end (results_none rfl _ _ _) rfl ?_;rw [HRR.out];have hsz : w.heap.size≤w4.heap.size:=Nat.le_trans cZ.out.size (Nat.le_trans HW3.out.size cz.out.size);refine⟨((((s1 cZ.out).then (s2 HW3.out)).then (s1 cz.out)).then (s1 bI.out)).then (s2 fF.out),rfl,⟨_,by simpa using rz.out,(.pointer u),ptr b6,[],rfl,?_,?_,rfl⟩,iP.out.kept fF.out (fun x hx=>by simp at hx;omega) (by simpa using Ne.symm hne) (by simpa using Ne.symm hnt)⟩
      ·exact((((ma.out.kept HW3.out (fun x hx hn=>by simp at hx;have:=hn.1;omega)).kept cz.out (fun x hx hn=>by simp at hx;have:=hn.1;omega)).kept bI.out (fun x hx hn=>by simp at hx;have:=hn.1;omega)).kept fF.out (fun x hx hn=>by simp at hx;have:=hn.1;omega)).mono (fun x hx=>⟨hx.1,Nat.lt_of_lt_of_le hx.2 (Nat.le_trans HW3.out.size (Nat.le_trans cz.out.size (Nat.le_trans bI.out.size fF.out.size)))⟩)
      ·exact((aY.later qG.out hsz).kept fF.out (fun x hx hn=>by simp at hx;have:=hn.1;omega)).mono (fun x hx=>⟨hx.1,Nat.lt_of_lt_of_le hx.2 fF.out.size⟩)
end Go.Proofs.YtechofppmnnomaaGreatDoor
