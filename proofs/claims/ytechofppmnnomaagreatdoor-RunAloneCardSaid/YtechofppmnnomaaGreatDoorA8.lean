/- Some texts in one. -/
import Derived.Test.YtechofppmnnomaaGreatDoorA5
import Derived.Test.YtechofppmnnomaaGreatDoorA6
import Derived.Test.YtechofppmnnomaaGreatDoorA7
namespace Go.Proofs.YtechofppmnnomaaGreatDoor
open Go Go.RowKit Go.Mq Go.Mq.Tree
set_option maxRecDepth 100000
set_option maxHeartbeats 2000000
def ym (t:List UInt8) (e:Ending):Prop:=match Lib.parseIntB 64 t with
 | .ok v=>e = .returned (.tuple #[.int .i64 v,.nilIface])
 | _=>∃ n T b,e = .returned (.tuple #[.int .i64 n,.iface T (.pointer (some ⟨b,0,none⟩))])
theorem agT (t:List UInt8) (w:World) (B:Nat) (hL:Laid w B) (ht : t.length≤1099511627776) :
  Calls Tryz.prog 134 #[str t,.int .i64 10,.int .i64 64] w (fun e w'=>ae [] w w'∧ym t e):=by
 have hd : (bs t).data.toList=t:=rfl;have hz : (bs t).size=t.length:=rfl
 unfold ym
 rcases hp:Lib.parseIntB 64 t with v|_|_
 ·skip
  refine(Any.strconv_ParseInt_10_at64_ok Tryz.NP (bs t) (by omega) v (by rw [hd];exact hp) w).mono ?_;rintro e w' ⟨rfl,rfl|⟨s,rfl⟩⟩
  ·exact⟨ae.refl _ _,rfl⟩
  ·exact⟨ae.of_below (Lib.bytesWorld_below _ _ _),rfl⟩
 ·skip
  obtain⟨ev,h1,h2⟩:=hL.Oz;refine(Any.strconv_ParseInt_10_at64_syntax Tryz.NP (bs t) (by omega) (by rw [hd];exact hp) ev w h1 h2).mono ?_;rintro e w' ⟨N,rfl,_,_,hb⟩;exact⟨ae.of_below hb,_,_,_,rfl⟩
 ·skip
  obtain⟨ev,h1,h2⟩:=hL.range;refine(Any.strconv_ParseInt_10_at64_range Tryz.NP (bs t) (by omega) (by rw [hd];exact hp) ev w h1 h2).mono ?_;rintro e w' ⟨N,rfl,_,_,hb⟩;exact⟨ae.of_below hb,_,_,_,rfl⟩
theorem V4 (most:Int) (w:World) (B bp bt z:Nat) (ts:List Tok) (h:bP w B bp bt z ts) :
  Calls Tryz.prog 110 #[ptr bp,.int .i64 most] w (eO w B bp bt z (number z most ts) (fun _ n v=>v = .int .i64 n)):=by
 have H:=zh h;cases ts with
 | nil=>
  obtain⟨off,c,c0,c1,c2,hl⟩:=yB h;have c1' : w.cell? ⟨bt,off + 1,none⟩=some (str []):=by
   obtain⟨off',c',hb',hl',hc'⟩:=h.at_;have e:=(hb'.cell 0 _ rfl).symm.trans c0;simp at e
   rw [← e.1];exact hc' 1 _ rfl
  clear h
  go_enter Tryz.func110,Tryz.ntmps110
  go_wp2_with fail;have hc:=(ae.refl [bp] w).alloc (.cells #[.int .i64 4,str [],.int .i64 z] 91);refine(lK 3 _ B bp bt z [] (H.out.kept ((ae.refl [] w).alloc _) (by simp) (by simp) (by simp))).mono ?_;intro e w2 he;have HE:=zh he;obtain⟨b,rfl⟩:=he.thrown;have HC:=zh hc;clear hc he;go_wp2_with fail;exact⟨rfl,HE.out.eH HC.out⟩
 | cons t r=>
  obtain⟨off,c,hb,c0,c1,c2,c3,hl,hcs⟩:=uM h;have hf:=hb.frozen 0;have hP:=h.kept ((ae.refl [] w).alloc (.cells #[.int .i64 t.kind.num,str t.text,.int .i64 t.pos] 91)) (by simp) (by simp) (by simp);have HP:=zh hP;have hne:=h.ne;have hbp : bp < w.heap.size:=hb.lt;have HB:=zh (And.intro hb hl);have HI:=zh (agT t.text _ B hP.laid (h.short t (by simp)));have HS:=zh hcs;clear hb hl hcs hP;cases hkd : decide (t.kind = .number) with
  | false=>
   have hk : ((t.kind.num:Int) != 2)=true:=by cases hq : t.kind <;> simp_all [Kind.num]
   have HR:=zh (show number z most (t :: r) = .bad 3 t.pos by rw [number,if_pos (of_decide_eq_false hkd)]);clear h hkd
   go_enter Tryz.func110,Tryz.ntmps110
   go_wp2_with fail;refine(lK 3 _ B bp bt z (t :: r) HP.out).mono ?_;intro e w2 he;have HE:=zh he;obtain⟨b,rfl⟩:=he.thrown;clear he;go_wp2_with fail;refine⟨rfl,?_⟩;rw [HR.out];exact HE.out.eH ((ae.refl _ _).alloc _)
  | true=>
   have hk : ((t.kind.num:Int) != 2)=false:=by cases hq : t.kind <;> simp_all [Kind.num]
   have HW:=zh (of_decide_eq_true hkd);clear h hkd;rcases hpi:Lib.parseIntB 64 t.text with v|_|_
   ·skip
    have HV:Hid (∀ e,ym t.text e→e = .returned (.tuple #[.int .i64 v,.nilIface])):=zh (fun e he=>by rw [ym,hpi] at he;exact he);cases V5 : decide (most < v) with
    | true=>
     have HR:=zh (show number z most (t :: r) = .bad 4 t.pos by rw [number,if_neg (by simp [HW.out]),hpi];exact if_pos (of_decide_eq_true V5));clear hpi
     go_enter Tryz.func110,Tryz.ntmps110
     go_wp2_with fail;refine HI.out.mono ?_;intro e w1 he;obtain rfl:=HV.out e he.2;have HC:=zh he.1;clear he;go_wp2_with fail;refine(lK 4 _ B bp bt z (t :: r) (HP.out.kept HC.out (by simp) (by simp) (by simp))).mono ?_;intro e w2 he;have HE:=zh he;obtain⟨b,rfl⟩:=he.thrown;clear he;go_wp2_with fail;refine⟨rfl,?_⟩;rw [HR.out];exact HE.out.eH (((ae.refl [bp] w).alloc _).then HC.out.weak)
    | false=>
     have HR:=zh (show number z most (t :: r) = .ok v r by rw [number,if_neg (by simp [HW.out]),hpi];exact if_neg (of_decide_eq_false V5));have hl:=HB.out.2;clear hpi
     go_enter Tryz.func110,Tryz.ntmps110
     go_wp2_with fail;refine HI.out.mono ?_;intro e w1 he;obtain rfl:=HV.out e he.2;obtain⟨d0,d1,d2,hc0⟩:=NN he.1;clear he;have hb1:=HB.out.1.kept hc0 (by simp);have e0:=hb1.cell 0 _ rfl;have ef:=hb1.frozen 0;have hp1:=H.out.kept hc0 (by simp) (by simp) (by simp);have HT1:=zh (I9 hp1 hb1 HB.out.2 (fun i v hi=>hc0.aF (HS.out i v hi) (by simp)));have aC:=zh hc0;clear hc0 hp1 hb1;go_wp2_with fail;go_ret
     rw [HR.out];exact⟨aC.out.weak.then HT1.out.2,_,rfl,rfl,HT1.out.1⟩
   ·skip
    have HV:Hid (∀ e,ym t.text e → ∃ n T b,e = .returned (.tuple #[.int .i64 n,.iface T (.pointer (some ⟨b,0,none⟩))])):=zh (fun e he=>by rw [ym,hpi] at he;exact he);have HR:=zh (show number z most (t :: r) = .bad 4 t.pos by rw [number,if_neg (by simp [HW.out]),hpi]);clear hpi
    go_enter Tryz.func110,Tryz.ntmps110
    go_wp2_with fail;refine HI.out.mono ?_;intro e w1 he;obtain⟨nn,T,bb,rfl⟩:=HV.out e he.2;have HC:=zh he.1;clear he;go_wp2_with fail;refine(lK 4 _ B bp bt z (t :: r) (HP.out.kept HC.out (by simp) (by simp) (by simp))).mono ?_;intro e w2 he;have HE:=zh he;obtain⟨b,rfl⟩:=he.thrown;clear he;go_wp2_with fail;refine⟨rfl,?_⟩;rw [HR.out];exact HE.out.eH (((ae.refl [bp] w).alloc _).then HC.out.weak)
   ·skip
    have HV:Hid (∀ e,ym t.text e → ∃ n T b,e = .returned (.tuple #[.int .i64 n,.iface T (.pointer (some ⟨b,0,none⟩))])):=zh (fun e he=>by rw [ym,hpi] at he;exact he);have HR:=zh (show number z most (t :: r) = .bad 4 t.pos by rw [number,if_neg (by simp [HW.out]),hpi]);clear hpi
    go_enter Tryz.func110,Tryz.ntmps110
    go_wp2_with fail;refine HI.out.mono ?_;intro e w1 he;obtain⟨nn,T,bb,rfl⟩:=HV.out e he.2;have HC:=zh he.1;clear he;go_wp2_with fail;refine(lK 4 _ B bp bt z (t :: r) (HP.out.kept HC.out (by simp) (by simp) (by simp))).mono ?_;intro e w2 he;have HE:=zh he;obtain⟨b,rfl⟩:=he.thrown;clear he;go_wp2_with fail;refine⟨rfl,?_⟩;rw [HR.out];exact HE.out.eH (((ae.refl [bp] w).alloc _).then HC.out.weak)
end Go.Proofs.YtechofppmnnomaaGreatDoor
namespace Go.Mq.Tree
open Go Go.RowKit Go.Mq
theorem NQ {z:Nat} {ts r:List Tok} {n:List UInt8} (h : name z ts = .ok n r) : r.length + 1=ts.length:=by
 cases ts with
 | nil=>cases h
 | cons t l=>
  rw [name] at h;split at h
  ·cases h
  ·split at h
   ·cases h
   ·cases h;rfl
theorem sS {s:List UInt8} {ts:List Tok} (h : see s ts=true) : ts.tail.length + 1=ts.length:=by
 cases ts with
 | nil=>cases h
 | cons t r=>rfl
theorem agU (s:List UInt8) (ts:List Tok) : (skip s ts).length≤ts.length:=by
 unfold skip;split <;> simp
theorem bP.rz {w:World} {B bp bt z:Nat} {ts:List Tok} (h:bP w B bp bt z ts) : bp < w.heap.size:=by
 obtain⟨off,c,hb,_⟩:=h.at_;exact hb.lt
theorem bP.vW {w:World} {B bp bt z:Nat} {ts:List Tok} (h:bP w B bp bt z ts) : bt < w.heap.size:=by
 obtain⟨off,c,_,_,hc⟩:=h.at_;cases ts with
 | nil=>exact lt_of_cell (hc 0 _ rfl)
 | cons t r=>exact lt_of_cell (hc 0 _ rfl)
theorem grow_step {w wr w2 w':World} {B bp bt z:Nat} {r:List Tok} {v v':Value} {o:Obj} (hB:B≤w.heap.size) (hbp : bp < w.heap.size) (hbt : bt < w.heap.size)
  (hC:ae [bp] w wr) (hN:ae [bp] wr w2) (hP:bP w2 B bp bt z r) (hF:From w.heap.size v) (hch:ae (blk v) (w2.alloc o) w') (hm:dS (w2.alloc o) v v') :
  bP w' B bp bt z r∧ae [bp] w w'∧From w.heap.size v':=by
 have hs:=(hC.then hN).size;refine⟨(hP.kept ((ae.refl [] w2).alloc o) (by simp) (by simp) (by simp)).kept hch (fun x hx=>Nat.le_trans hB (hF x hx)) (fun hm=>by have:=hF _ hm;omega) (fun hm=>by have:=hF _ hm;omega),?_,hF.moved hm (by simp;omega)⟩;exact((hC.then hN).alloc o).trans hch (fun x hx=>.inr (hF x hx))
def lenOf:Value→Nat
 | .slice _ n _=>n
 | _=>0
theorem Ja {w:World} {e:TypeId} {size n:Nat} {v:Value} {xs:List Value} (h : w.ownsRow 0 e size v n xs) : lenOf v=n:=by
 rcases h.2 with⟨rfl,rfl⟩|⟨g,cap,cur,rfl,_⟩ <;> rfl
theorem gq {w:World} {e:TypeId} {size n:Nat} {v:Value} {xs:List Value} (h : w.ownsRow 0 e size v n xs) : ∃ a c,v = .slice a n c:=by
 rcases h.2 with⟨rfl,rfl⟩|⟨g,cap,cur,rfl,_⟩
 ·exact⟨_,_,rfl⟩
 ·exact⟨_,_,rfl⟩
theorem Am {w w':World} {e:TypeId} {size n:Nat} {v:Value} {xs:List Value} (h : w'.ownsRow 0 e size v n xs) (hF:From w.heap.size v) : ∀ g∈blk v,New w w' g:=fun g hg=>⟨hF g hg,qC h g hg⟩
end Go.Mq.Tree
namespace Go.Proofs.YtechofppmnnomaaGreatDoor
open Go Go.RowKit Go.Mq Go.Mq.Tree
set_option maxRecDepth 100000
set_option maxHeartbeats 4000000
theorem agV : (Tryz.prog.info? 9).map (fun i=>(i.zero,i.size,i.bytes))=some (some (.string ⟨#[]⟩),1,16):=by kernel_rfl
theorem NR (most:Nat) (ai' : most≤1000) (w:World) (B bp bt z:Nat) (ts:List Tok) (h:bP w B bp bt z ts) :
  Calls Tryz.prog 72 #[ptr bp,.int .i64 most] w (eO w B bp bt z (names z most ts) (fun w' l v=>eF w' (New w w') l v)):=by
 have H:=zh h;have hB:=h.laid.le;have hbp:=h.rz;have hbt:=h.vW;clear h
 go_enter Tryz.func72,Tryz.ntmps72
 go_wp2_with fail
 go_loopw [5,6] (fun l m wr=>∃ (f:Nat) (b:Bool) (acc:List (List UInt8)) (ts':List Tok),m = .bool b∧names z most ts=(if b then rD z most f acc ts' else .ok acc ts')∧(b=true→f + acc.length=most + 1)∧acc.length≤most∧acc.length + ts'.length≤600 ∧
   bP wr B bp bt z ts'∧wr.ownsRow 0 9 1 l acc.length (acc.map str)∧From w.heap.size l∧ae [bp] w wr) (fun l _ _=>most + 1 - lenOf l)
 case atStart=>exact⟨most + 1,true,[],ts,rfl,rfl,fun _=>rfl,Nat.zero_le _,by simpa using H.out.few,H.out,World.ownsRow_nil _ _ _ _,From.nil _,ae.refl _ _⟩
 case round=>
  obtain⟨f,b,acc,ts',rfl,hr,hf,ha,hlen,hp,ho,hF,hC⟩:=hrel;have HR:=zh hr;have HP:=zh hp;have HO:=zh ho;have HF:=zh hF;have HC:=zh hC;obtain⟨sa,sc,hs⟩:=gq ho;clear hr hp ho hF hC;cases b with
  | false=>
   clear hf;go_wp2_with fail;go_ret
   rw [HR.out];refine⟨HC.out,_,rfl,?_,HP.out⟩;obtain⟨a,c,rfl,hac,hrow⟩:=Row.jU (HO.out) (Am HO.out HF.out);exact⟨a,c,by simp,by simpa using hac,hrow⟩
  | true=>
   have hf:=hf rfl;subst hs;obtain⟨f,rfl⟩ : ∃ f',f=f' + 1:=⟨f - 1,by omega⟩
   cases he : decide (acc.length=most) with
   | true=>
    have he1 : ((acc.length:Int) == (most:Int))=true:=by have:=of_decide_eq_true he;simp [this]
    have HRR:=zh (show names z most ts = .bad 4 (hd z ts') by rw [HR.out,if_pos rfl,rD,if_pos (of_decide_eq_true he)]);clear he;go_wp2_with fail;refine(lK 4 _ B bp bt z ts' HP.out).mono ?_;intro e w2 he;have HE:=zh he;obtain⟨b,rfl⟩:=he.thrown;clear he;go_wp2_with fail;refine⟨rfl,?_⟩;rw [HRR.out];exact HE.out.eH HC.out
   | false=>
    have he1 : ((acc.length:Int) == (most:Int))=false:=by have:=of_decide_eq_false he;simp;omega
    have hne:=of_decide_eq_false he;have HN:=zh (Cc _ B bp bt z ts' HP.out);clear he;cases hn : name z ts' with
    | bad en p=>
     have HRR:=zh (show names z most ts = .bad en p by rw [HR.out,if_pos rfl,rD,if_neg hne,hn]);rw [hn] at HN;clear hn hne;go_wp2_with fail;refine HN.out.mono ?_;intro e w2 he;have HE:=zh he;obtain⟨b,rfl⟩:=he.thrown;clear he;go_wp2_with fail;refine⟨rfl,?_⟩;rw [HRR.out];exact HE.out.eH HC.out
    | ok n r=>
     have hnl:=NQ hn;have ha1 : acc.length + 1≤most:=by omega
     have HRR:=zh (show names z most ts=if see [44] r then rD z most f (acc ++ [n]) r.tail else .ok (acc ++ [n]) r by rw [HR.out,if_pos rfl,rD,if_neg hne,hn]);rw [hn] at HN;clear hn hne;go_wp2_with fail;refine HN.out.mono ?_;rintro e w2 ⟨hc2,_,rfl,rfl,hp2⟩;have aD:=zh hc2;have Ab:=zh hp2;have ho2:=cK HO.out ((hc2.alloc (.cells #[str n] 9))) (fun g hg hm=>by have:=HF.out g hg;simp at hm;omega);have uK:=zh ho2;clear hc2 hp2 ho2;go_wp2_with (at_builtin;go_must (refine pO rfl _ _ 27 rfl 9 _ 1 16 agV Tryz.underlying27 rfl (by decide) _ _ _ rfl uK.out ⟨w2.heap.size,0,none⟩ 1 1 [_] rfl rfl (Aj _ _ _) (by simp [Value.oneCell']) ?_ ?_ ?_))
     ·omega
     ·unfold maxLen;omega
     ·intro v' w' hown' hch' cz
      have iV:=zh hown';clear hown';obtain⟨hp3,hc3,hf3⟩:=grow_step hB hbp hbt HC.out aD.out Ab.out HF.out hch' cz;have qo:=zh hp3;have bz:=zh hc3;have pY:=zh hf3;clear hch' cz hp3 hc3 hf3;go_wp2_with fail;refine(kT [44] _ B bp bt z r qo.out).mono ?_;rintro e w4 ⟨rfl,gy,hc4,_⟩;have oq:=zh gy;have cu:=zh hc4;clear gy hc4;go_wp2_with fail;have pz:=cK iV.out cu.out (fun g hg hm=>by have:=pY.out g hg;simp at hm;omega);have hl4 : lenOf v'=acc.length + 1:=Ja iV.out;have hsk : (skip [44] r).length≤r.length:=agU _ _;refine⟨⟨f,see [44] r,acc ++ [n],skip [44] r,rfl,?_,fun _=>by simp;omega,by simp;omega,by simp;omega,oq.out,by simpa using pz,pY.out,bz.out.then cu.out⟩,?_⟩
      ·rw [HRR.out];unfold skip;split <;> rfl
      ·rw [hl4];simp only [lenOf];omega
end Go.Proofs.YtechofppmnnomaaGreatDoor
namespace Go.Proofs.YtechofppmnnomaaGreatDoor
open Go Go.RowKit Go.Mq Go.Mq.Tree
set_option maxRecDepth 100000
set_option maxHeartbeats 4000000
theorem V6 (k:Nat) (lv:List (List UInt8)) (hk : levels[k]?=some lv) (w:World) (B bp bt z:Nat) (ts:List Tok) (h:bP w B bp bt z ts) :
  Calls Tryz.prog 163 #[ptr bp,.int .i64 k] w (fun e w'=>e = .returned (str ((rF lv ts).getD []))∧w'=w):=by
 have H:=zh h;obtain⟨b,off,c,c0,_,hc,hcell⟩:=h.laid.levels k lv hk;have hk5 : k < 5:=(List.getElem?_eq_some_iff.1 hk).1;have hlv : lv.length≤6:=by
  have : ∀ l∈levels,l.length≤6:=by decide
  exact this lv (List.mem_of_getElem? hk)
 have fK:=zh hcell;clear h hcell hk
 go_enter Tryz.func163,Tryz.ntmps163
 go_wp2_with fail
 go_loopw [6,11] (fun _ i wr=>∃ n:Nat,n≤lv.length∧i = .int .i64 n∧wr=w∧rF lv ts=(lv.drop n).find? (fun m=>see m ts)) (fun _ i _=>10 - (intOf i).toNat)
 case atStart=>exact⟨0,Nat.zero_le _,rfl,rfl,rfl⟩
 case round=>
  obtain⟨n,hn,rfl,rfl,hr⟩:=hrel;have HR:=zh hr;clear hr;by_cases hlt : n < lv.length
  ·have hm : lv[n]?=some lv[n]:=List.getElem?_eq_getElem hlt
   have hcl:=fK.out n _ hm;have HS:=zh (yl lv[n] wr B bp bt z ts H.out);cases hs : see lv[n] ts with
   | true=>
    have HRR:=zh (show rF lv ts=some lv[n] by rw [HR.out,List.drop_eq_getElem_cons hlt,List.find?_cons,hs]);have HI:=zh hs;clear hs;go_wp2_with fail;refine HS.out.mono ?_;rintro _ w2 ⟨rfl,rfl⟩;rw [HI.out];go_wp2_with fail;go_ret
    rw [HRR.out];exact⟨rfl,rfl⟩
   | false=>
    have HRR:=zh (show rF lv ts=(lv.drop (n + 1)).find? (fun m=>see m ts) by rw [HR.out,List.drop_eq_getElem_cons hlt,List.find?_cons,hs]);have HI:=zh hs;clear hs;go_wp2_with fail;refine HS.out.mono ?_;rintro _ w2 ⟨rfl,rfl⟩;rw [HI.out];go_wp2_with fail;exact⟨⟨n + 1,by omega,by go_num,by first|rfl|trivial,HRR.out⟩,by simp [intOf];omega⟩
  ·have hge : n=lv.length:=by omega
   have HRR:=zh (show rF lv ts=none by rw [HR.out,hge,List.drop_length];rfl);go_wp2_with fail;go_ret
   rw [HRR.out];exact⟨rfl,rfl⟩
end Go.Proofs.YtechofppmnnomaaGreatDoor
namespace Go.Mq.Tree
open Go Go.RowKit Go.Mq
def aM {α:Type} (p:Ps α):Prop:=∀ ts a r,p ts = .ok a r→r.length≤ts.length
def pJ {α:Type} (p:Ps α):Prop:=∀ ts a r,p ts = .ok a r→r.length < ts.length
theorem pJ.mono {α:Type} {p:Ps α} (h:pJ p):aM p:=fun ts a r hr=>Nat.le_of_lt (h ts a r hr)
theorem V7 {lv:List (List UInt8)} {ts:List Tok} {m:List UInt8} (h : rF lv ts=some m) : see m ts=true:=by
 have:=List.find?_some h
 simpa using this
theorem V8 {sub:Ps E} (hs:aM sub) (lv:List (List UInt8)) (p:Nat) : ∀ f x,aM (oD sub lv p f x):=by
 intro f
 induction f with
 | zero=>intro x ts a r h;cases h
 | succ f ih=>
  intro x ts a r h;rw [oD] at h;cases ho : rF lv ts with
  | none=>rw [ho] at h;cases h;exact Nat.le_refl _
  | some m=>
   rw [ho] at h;have:=sS (V7 ho);cases hsub : sub ts.tail with
   | bad e q=>rw [hsub] at h;cases h
   | ok y r2=>
    rw [hsub] at h;have h1:=hs _ _ _ hsub;have h2:=ih _ _ _ _ h;omega
theorem agW {z:Nat} {base:Ps E} (hb:aM base) : ∀ k,aM (expr z base k):=by
 intro k
 induction k with
 | zero=>exact hb
 | succ k ih=>
  intro ts a r h;rw [expr] at h;simp only at h;cases hx : expr z base k ts with
  | bad e q=>rw [hx] at h;cases h
  | ok x r2=>
   rw [hx] at h;have h1:=ih _ _ _ hx;have h2:=V8 ih _ _ _ _ _ _ _ h;omega
theorem Ce {z:Nat} {base:Ps E} (hb:pJ base) : ∀ k,pJ (expr z base k):=by
 intro k
 induction k with
 | zero=>exact hb
 | succ k ih=>
  intro ts a r h;rw [expr] at h;simp only at h;cases hx : expr z base k ts with
  | bad e q=>rw [hx] at h;cases h
  | ok x r2=>
   rw [hx] at h;have h1:=ih _ _ _ hx;have h2:=V8 ih.mono _ _ _ _ _ _ _ h;omega
def kg (sub:Ps E) (lv:List (List UInt8)) (z:Nat):Ps E:=fun ts=>match sub ts with
 | .bad e p=>.bad e p
 | .ok x r=>oD sub lv (hd z ts) (r.length + 1) x r
def Fe (w:World) (bp:Nat):Nat:=match w.cell? ⟨bp,0,none⟩ with
 | some v=>lenOf v
 | none=>0
theorem bP.cnt {w:World} {B bp bt z:Nat} {ts:List Tok} (h:bP w B bp bt z ts) : Fe w bp=ts.length + 1:=by
 obtain⟨off,c,hb,_⟩:=h.at_;rw [Fe,hb.cell 0 _ rfl]
 rfl
abbrev EV (w:World):World→E→Value→Prop:=fun w' e v=>aY w' (New w w') e [v]
theorem aY.grown {w w1 w2:World} {bp:Nat} {e:E} {us:List Value} (h:aY w1 (New w w1) e us) (hbp : bp < w.heap.size) (hc:ae [bp] w1 w2):aY w2 (New w w2) e us:=
 (h.kept hc (fun x hx hn=>by simp at hx;have:=hn.1;omega)).mono fun x hx=>⟨hx.1,by have:=hc.size;have:=hx.2;omega⟩
theorem aY.later {w w0 w1:World} {e:E} {us:List Value} (h:aY w1 (New w0 w1) e us) (hs : w.heap.size≤w0.heap.size):aY w1 (New w w1) e us:=h.mono fun _ hx=>⟨Nat.le_trans hs hx.1,hx.2⟩
theorem aY.ptr {w:World} {F:Nat→Prop} {e:E} : ∀ {v:Value},aY w F e [v] → ∃ b,v=ptr b:=by
 induction e with
 | num p n=>rintro v ⟨b,h1,_⟩;cases h1;exact⟨b,rfl⟩
 | var p m n=>rintro v ⟨b,h1,_⟩;cases h1;exact⟨b,rfl⟩
 | item p m n i ih=>rintro v ⟨b,u,h1,_⟩;cases h1;exact⟨b,rfl⟩
 | un p op x ih=>rintro v ⟨b,u,h1,_⟩;cases h1;exact⟨b,rfl⟩
 | bin p op x y ih1 ih2=>rintro v ⟨b,u,v',h1,_⟩;cases h1;exact⟨b,rfl⟩
 | app p m n l ih=>rintro v ⟨b,a,c,vs,h1,_⟩;cases h1;exact⟨b,rfl⟩
 | nil=>intro v h;cases h
 | cons x r ih1 ih2=>rintro v ⟨u,vs,h1,h2,h3⟩;cases h1;exact ih1 h2
end Go.Mq.Tree
namespace Go.Proofs.YtechofppmnnomaaGreatDoor
open Go Go.RowKit Go.Mq Go.Mq.Tree
set_option maxRecDepth 100000
set_option maxHeartbeats 4000000
def Cf (deep d:Nat):Prop:=∀ (w:World) (B bp bt z:Nat) (ts:List Tok),bP w B bp bt z ts→Calls Tryz.prog 162 #[ptr bp,.int .i64 deep] w (eO w B bp bt z (one z d ts) (EV w))
def uH (level deep:Nat) (ex:Nat→Ps E):Prop:=∀ (w:World) (B bp bt z:Nat) (ts:List Tok),bP w B bp bt z ts→Calls Tryz.prog 136 #[ptr bp,.int .i64 level,.int .i64 deep] w (eO w B bp bt z (ex z ts) (EV w))
theorem agX {lv:List (List UInt8)} {m:List UInt8} {k:Nat} (h : levels[k]?=some lv) (hm : m∈lv) : m≠[]:=by
 have : ∀ l∈levels,∀ m∈l,m≠[]:=by decide
 exact this lv (List.mem_of_getElem? h) m hm
theorem agY (deep d:Nat) (hO:Cf deep d):uH 5 deep (fun z=>one z d):=by
 intro w B bp bt z ts h;have HO:=zh (hO w B bp bt z ts h);have H:=zh h;clear h hO
 go_enter Tryz.func136,Tryz.ntmps136
 go_wp2_with fail;refine HO.out.mono ?_;intro e w1 he;cases hr : one z d ts with
 | bad en p=>
  rw [hr] at he;have HE:=zh he;obtain⟨b,rfl⟩:=he.thrown;clear he;go_wp2_with fail;exact⟨rfl,HE.out⟩
 | ok x r=>
  rw [hr] at he;have HE:=zh he;obtain⟨_,v,rfl,_⟩:=he;go_wp2_with fail;go_ret
  first|exact HE.out|(rw [hr];exact HE.out)
theorem agZ (level deep:Nat) (hl : level < 5) (sub:Nat→Ps E) (hmono : ∀ z,aM (sub z)) (hS:uH (level + 1) deep sub) (lv:List (List UInt8)) (hlv : levels[level]?=some lv) (aja : deep≤11) :
  uH level deep (fun z=>kg (sub z) lv z):=by
 intro w B bp bt z ts h;have hS' : ∀ (w:World) (B bp bt z:Nat) (ts:List Tok),bP w B bp bt z ts→Calls Tryz.prog 136 #[ptr bp,.int .i64 ((level:Int) + 1),.int .i64 deep] w (eO w B bp bt z (sub z ts) (EV w)):=fun w B bp bt z ts h=>by
  have:=hS w B bp bt z ts h
  simpa using this
 have HS:=zh (hS' w B bp bt z ts h);have NS:=zh hS';have H:=zh h;have BM:=zh hlv;have key : ∃ off c n,w.cell? ⟨bp,0,none⟩=some (.slice (some ⟨bt,off,none⟩) (n + 1) c)∧w.cell? ⟨bt,off + 2,none⟩=some (.int .i64 (hd z ts)):=by
  cases ts with
  | nil=>obtain⟨off,c,c0,_,c2,_⟩:=yB h;exact⟨off,c,0,c0,c2⟩
  | cons t r=>obtain⟨off,c,_,c0,_,_,c2,_⟩:=uM h;exact⟨off,c,r.length + 1,c0,c2⟩
 obtain⟨off,c,n,c0,c2⟩:=key;have hbp:=h.rz;have HM:=zh (hmono z);have hne5 : ((level:Int) == 5)=false:=by simp;omega
 have hwr:IntKind.i64.wrap ((level:Int) + 1)=(level:Int) + 1:=by
  simp only [IntKind.wrap,IntKind.bits,IntKind.signed];simp;omega
 clear h hS hS' hlv hmono;cases hr : sub z ts with
 | bad en p=>
  rw [hr] at HS;have HR:=zh hr;clear hr
  go_enter Tryz.func136,Tryz.ntmps136
  go_wp2_with fail;refine HS.out.mono ?_;intro e w1 he;have HE:=zh he;obtain⟨b,rfl⟩:=he.thrown;clear he;go_wp2_with fail;refine⟨rfl,?_⟩;rw [kg,HR.out];exact HE.out
 | ok x r=>
  rw [hr] at HS;have HR:=zh hr;clear hr
  go_enter Tryz.func136,Tryz.ntmps136
  go_wp2_with fail;refine HS.out.mono ?_;rintro e w1 ⟨hc1,v,rfl,hv,hp1⟩;have cB:=zh hc1;have HV:=zh hv;have oz:=zh hp1;clear hc1 hv hp1;go_wp2_with fail;refine(V6 level lv BM.out w1 B bp bt z r oz.out).mono ?_;rintro _ w2 ⟨rfl,rfl⟩;go_wp2_with fail
  go_loopw [8,9] (fun v op wr=>∃ (f:Nat) (x':E) (ts':List Tok),op=str ((rF lv ts').getD [])∧oD (sub z) lv (hd z ts) (r.length + 1) x r=oD (sub z) lv (hd z ts) f x' ts'∧ts'.length < f∧aY wr (New w wr) x' [v]∧bP wr B bp bt z ts'∧ae [bp] w wr) (fun _ _ wr=>Fe wr bp)
  case atStart=>exact⟨r.length + 1,x,r,rfl,rfl,Nat.lt_succ_self _,HV.out,oz.out,cB.out⟩
  case round=>
   obtain⟨f,x',ts',rfl,hb,hf,hx,hp,hc⟩:=hrel;have HB:=zh hb;have HX:=zh hx;have HP:=zh hp;have HC:=zh hc;clear hb hx hp hc;obtain⟨f,rfl⟩ : ∃ f',f=f' + 1:=⟨f - 1,by omega⟩
   cases ho : rF lv ts' with
   | none=>
    have HO:=zh ho;clear ho;simp only [Option.getD_none];go_wp2_with fail;go_ret
    simp only [kg,HR.out];rw [HB.out,oD,HO.out];exact⟨HC.out,_,rfl,HX.out,HP.out⟩
   | some m=>
    have hm:=agX BM.out (List.mem_of_find?_eq_some ho);have HO:=zh ho;have vX:=V7 ho;have iI:=zh (gP m _ B bp bt z ts' HP.out);rw [must,vX,if_pos rfl] at iI;have hst:=sS vX;clear ho vX;simp only [Option.getD_some];have hm1 : m.isEmpty=false:=by cases m;exact absurd rfl hm;rfl
    go_wp2_with fail;refine iI.out.mono ?_;rintro _ w3 ⟨hc3,_,rfl,rfl,hp3⟩;have bz:=zh hc3;have qo:=zh hp3;clear hc3 hp3;have Cg:=NS.out w3 B bp bt z ts'.tail qo.out;cases hsub : sub z ts'.tail with
    | bad en p=>
     rw [hsub] at Cg;have lT:=zh Cg;have HRR:=zh (show kg (sub z) lv z ts = .bad en p by simp only [kg,HR.out];rw [HB.out,oD,HO.out];simp only [hsub]);clear Cg hsub;go_wp2_with fail;refine lT.out.mono ?_;intro e w4 he;have HE:=zh he;obtain⟨b,rfl⟩:=he.thrown;clear he;go_wp2_with fail;refine⟨rfl,?_⟩;rw [HRR.out];exact HE.out.eH (HC.out.then bz.out)
    | ok y r2=>
     rw [hsub] at Cg;have lT:=zh Cg;have hr2:=HM.out _ _ _ hsub;have HRR:=zh (show oD (sub z) lv (hd z ts) (f + 1) x' ts'=oD (sub z) lv (hd z ts) f (.bin (hd z ts) m x' y) r2 by rw [oD,HO.out];simp only [hsub]);clear Cg hsub;go_wp2_with fail;refine lT.out.mono ?_;rintro e w4 ⟨hc4,v2,rfl,hv2,gy⟩;obtain⟨b2,rfl⟩:=hv2.ptr;obtain⟨b1,rfl⟩:=HX.out.ptr;have cu:=zh hc4;have Ec:=zh hv2;have oq:=zh gy;clear hc4 hv2 gy;go_wp2_with fail;refine(V6 level lv BM.out _ B bp bt z r2 (oq.out.kept ((ae.refl [] w4).alloc _) (by simp) (by simp) (by simp))).mono ?_;rintro _ w5 ⟨rfl,rfl⟩;have hx4:=(HX.out.grown hbp (bz.out.then cu.out));have hs4 : w.heap.size≤w3.heap.size:=(HC.out.then bz.out).size;have hy4:=aY.later Ec.out hs4;have hs5 : w.heap.size≤w4.heap.size:=Nat.le_trans hs4 cu.out.size;have Be:=zh hx4;have HY4:=zh hy4;clear hx4 hy4;go_wp2_with fail;refine⟨⟨f,.bin (hd z ts) m x' y,r2,rfl,HB.out.trans HRR.out,by omega,?_,oq.out.kept ((ae.refl [] w4).alloc _) (by simp) (by simp) (by simp),((HC.out.then bz.out).then cu.out).alloc _⟩,?_⟩
     ·have aO:ae [bp] w4 (w4.alloc (.cells #[.int .i64 5,.int .i64 (hd z ts),.int .i64 0,str [],str [],str m,ptr b1,ptr b2,ah] 192)):=(ae.refl _ _).alloc _
      exact⟨w4.heap.size,ptr b1,ptr b2,rfl,⟨hs5,by simp⟩,ag.new _ _ _,Be.out.grown hbp aO,HY4.out.grown hbp aO⟩
     ·rw [(oq.out.kept ((ae.refl [] w4).alloc _) (by simp) (by simp) (by simp)).cnt,HP.out.cnt]
      omega
theorem V9 (deep d:Nat) (hO:Cf deep d) (hmono : ∀ z,aM (one z d)) (hdp : deep≤11) : ∀ k,k≤5→uH (5 - k) deep (fun z=>expr z (one z d) k):=by
 intro k
 induction k with
 | zero=>exact fun _=>agY deep d hO
 | succ k ih=>
  intro hk;have hlv : levels[5 - (k + 1)]?=some (levels.getD (4 - k) []):=by
   rw [show 5 - (k + 1)=4 - k by omega];have : 4 - k < levels.length:=by show 4 - k < 5;omega
   simp [this]
  have hS:uH (5 - (k + 1) + 1) deep (fun z=>expr z (one z d) k):=by rw [show 5 - (k + 1) + 1=5 - k by omega];exact ih (by omega)
  exact agZ (5 - (k + 1)) deep (by omega) (fun z=>expr z (one z d) k) (fun z=>agW (hmono z) k) hS _ hlv hdp
end Go.Proofs.YtechofppmnnomaaGreatDoor
namespace Go.Mq.Tree
open Go Go.RowKit Go.Mq
structure jg (Q:World→(Nat→Prop)→Prop):Prop where
 mono : ∀ {w:World} {F G:Nat→Prop},(∀ x,F x→G x)→Q w F→Q w G
 kept : ∀ {S:List Nat} {w w':World} {F:Nat→Prop},ae S w w'→(∀ x∈S,¬ F x)→Q w F→Q w' F
def Off (w wr:World) (l:Value):Nat→Prop:=fun b=>w.heap.size≤b∧b < wr.heap.size∧b∉blk l
section
variable {Q:World→(Nat→Prop)→Prop} {w wr w2 w3 w':World} {l l':Value} {o:Obj}
theorem jg.call (hQ:jg Q) {bp:Nat} (h:Q wr (Off w wr l)) (hc:ae [bp] wr w2) (hbp : bp < w.heap.size):Q w2 (Off w w2 l):=
 hQ.mono (fun x hx=>⟨hx.1,by have:=hc.size;have:=hx.2.1;omega,hx.2.2⟩) (hQ.kept hc (fun x hx hn=>by simp at hx;have:=hn.1;omega) h)
theorem jg.fresh (hQ:jg Q) (h:Q w2 (New w3 w2)) (hl : ∀ g∈blk l,g < w3.heap.size) (hs : w.heap.size≤w3.heap.size):Q w2 (Off w w2 l):=
 hQ.mono (fun x hx=>⟨Nat.le_trans hs hx.1,hx.2,fun hm=>by have:=hl x hm;have:=hx.1;omega⟩) h
theorem jg.app (hQ:jg Q) (h:Q w2 (Off w w2 l)) (hch:ae (blk l) (w2.alloc o) w') (hm:dS (w2.alloc o) l l'):Q w' (Off w w' l'):=by
 refine hQ.mono (fun x hx=>⟨hx.1,by have h1 : w2.heap.size≤(w2.alloc o).heap.size:=(by simp);have:=hch.size;have:=hx.2.1;omega,fun hm'=>?_⟩) (hQ.kept (((ae.refl [] w2).alloc o).weak.then hch) (fun x hx hn=>hn.2.2 hx) h);rcases hm x hm' with h1|h1
 ·exact hx.2.2 h1
 ·have:=hx.2.1;simp at h1;omega
theorem jg.done (hQ:jg Q) (h:Q wr (Off w wr l)):Q wr (New w wr):=hQ.mono (fun _ hx=>⟨hx.1,hx.2.1⟩) h
end
theorem Ad (e:E) (us:List Value):jg (fun w F=>aY w F e us):=⟨fun hF h=>h.mono hF,fun hc hS h=>h.kept hc hS⟩
theorem Ch (l:List E) (us:List Value):jg (fun w F=>kE w F l us):=⟨fun hF h=>h.mono hF,fun hc hS h=>h.kept hc hS⟩
theorem yn (s:S) (cs:List Value):jg (fun w F=>dI w F s cs):=⟨fun hF h=>h.mono hF,fun hc hS h=>h.kept hc hS⟩
theorem Jb (l:List aX) (cs:List Value):jg (fun w F=>kF w F l cs):=⟨fun hF h=>h.mono hF,fun hc hS h=>h.kept hc hS⟩
def ag1 (w:World) (F:Nat→Prop) (l:List E) (v:Value):Prop:=∃ a c vs,v = .slice a vs.length c∧vs.length≤c∧Row w F a vs∧kE w F l vs
theorem ag2 {z:Nat} {ex:Ps E} (hs:pJ ex) : ∀ f first l,aM (jh z ex f first l):=by
 intro f
 induction f with
 | zero=>intro first l ts a r h;cases h
 | succ f ih=>
  intro first l ts a r h;rw [jh] at h;cases h1 : see [41] ts with
  | true=>rw [h1,if_pos rfl] at h;cases h;simp
  | false=>
   rw [h1,if_neg (by simp)] at h;split at h
   ·cases h
   ·split at h
    ·cases h
    ·rename_i x r2 hx
     have g1:=hs _ _ _ hx;have g2:=ih _ _ _ _ _ h;have g3 : (if first=true then ts else ts.tail).length≤ts.length:=by split <;> simp
     omega
end Go.Mq.Tree
namespace Go.Proofs.YtechofppmnnomaaGreatDoor
open Go Go.RowKit Go.Mq Go.Mq.Tree
set_option maxRecDepth 100000
set_option maxHeartbeats 4000000
theorem Gh : (Tryz.prog.info? 166).map (fun i=>(i.zero,i.size,i.bytes))=some (some (.pointer none),1,8):=by kernel_rfl
theorem NT {deep:Nat} {ex:Nat→Ps E} (h:uH 0 (deep + 1) ex) : ∀ (w:World) (B bp bt z:Nat) (ts:List Tok),bP w B bp bt z ts→Calls Tryz.prog 136 #[ptr bp,.int .i64 0,.int .i64 ((deep:Int) + 1)] w (eO w B bp bt z (ex z ts) (EV w)):=fun w B bp bt z ts hp=>by
 have:=h w B bp bt z ts hp
 simpa using this
theorem Ff {deep:Nat} (h : deep≤11):IntKind.i64.wrap ((deep:Int) + 1)=(deep:Int) + 1:=by
 simp only [IntKind.wrap,IntKind.bits,IntKind.signed];simp;omega
theorem ag3 (deep:Nat) (hdp : deep≤11) (ex:Nat→Ps E) (hE:uH 0 (deep + 1) ex) (Ae : ∀ z,pJ (ex z)) (w:World) (B bp bt z:Nat) (ts:List Tok) (h:bP w B bp bt z ts) (vX : see [40] ts=true) :
  Calls Tryz.prog 182 #[ptr bp,.int .i64 deep] w (eO w B bp bt z (jh z (ex z) (ts.length + 1) true [] ts.tail) (fun w' l v=>ag1 w' (New w w') l v)):=by
 have HE:=zh (NT hE);have H:=zh h;have iI:=zh (gP [40] w B bp bt z ts h);rw [must,vX,if_pos rfl] at iI;have hB:=h.laid.le;have hbp:=h.rz;have hbt:=h.vW;have hwr:=Ff hdp;have hst:=sS vX;have dJ:=h.few;have HM:=zh (Ae z);clear h hE vX Ae
 go_enter Tryz.func182,Tryz.ntmps182
 go_wp2_with fail;refine iI.out.mono ?_;rintro _ w1 ⟨hc1,_,rfl,rfl,hp1⟩;have cB:=zh hc1;have oz:=zh hp1;clear hc1 hp1;go_wp2_with fail
 go_loopw [5,6] (fun l m wr=>∃ (f:Nat) (b:Bool) (acc:List E) (vs:List Value) (ts':List Tok),m = .bool b∧jh z (ex z) (ts.length + 1) true [] ts.tail=jh z (ex z) f b acc ts'∧ts'.length < f∧acc.length + ts'.length≤600 ∧
   bP wr B bp bt z ts'∧wr.ownsRow 0 166 1 l acc.length vs∧kE wr (Off w wr l) acc vs∧From w.heap.size l∧ae [bp] w wr) (fun _ _ wr=>Fe wr bp)
 case atStart=>exact⟨ts.length + 1,true,[],[],ts.tail,rfl,rfl,by omega,by simp;omega,oz.out,World.ownsRow_nil _ _ _ _,rfl,From.nil _,cB.out⟩
 case round=>
  obtain⟨f,b,acc,vs,ts',rfl,hr,hf,hlen,hp,ho,hes,hF,hC⟩:=hrel;have HR:=zh hr;have HP:=zh hp;have HO:=zh ho;have qh:=zh hes;have HF:=zh hF;have HC:=zh hC;obtain⟨sa,sc,hs⟩:=gq ho;clear hr hp ho hes hF hC;subst hs;obtain⟨f,rfl⟩ : ∃ f',f=f' + 1:=⟨f - 1,by omega⟩
  have HT:=zh (kT [41] wr B bp bt z ts' HP.out);cases hsc : see [41] ts' with
  | true=>
   have HRR:=zh (show jh z (ex z) (ts.length + 1) true [] ts.tail = .ok acc ts'.tail by rw [HR.out,jh,hsc,if_pos rfl]);have HI:=zh hsc;clear hsc;go_wp2_with fail;refine HT.out.mono ?_;rintro _ w2 ⟨rfl,hp2,hc2,_⟩;rw [HI.out];rw [skip,HI.out,if_pos rfl] at hp2;have Ab:=zh hp2;have aD:=zh hc2;clear hp2 hc2;go_wp2_with fail;go_ret
   rw [HRR.out];refine⟨HC.out.then aD.out,_,rfl,?_,Ab.out⟩;have ho2:=cK HO.out aD.out (fun g hg hm=>by have:=HF.out g hg;simp at hm;omega);obtain⟨a,c,he,hac,hrow⟩:=Row.jU ho2 (Am ho2 HF.out);have hln:=qh.out.len;exact⟨a,c,vs,by rw [hln];exact he,by omega,hrow,(Ch acc vs).done ((Ch acc vs).call qh.out aD.out hbp)⟩
  | false=>
   have HI:=zh hsc;cases b with
   | true=>
    have hlt : ts'.length < f + 1:=hf;have HRR:Hid (∀ q,ex z ts'=q→jh z (ex z) (ts.length + 1) true [] ts.tail=match q with | .bad e p=>.bad e p | .ok x r=>jh z (ex z) f false (acc ++ [x]) r):=zh (fun q hq=>by rw [HR.out,jh,hsc,if_neg (by simp),if_neg (by simp),if_pos rfl,hq];cases q <;> rfl);clear hsc;have nL:=zh (HE.out wr B bp bt z ts' HP.out);cases hx : ex z (ts') with
    | bad en p=>
     have HX:=zh hx;rw [HX.out] at nL;clear hx;go_wp2_with fail;refine HT.out.mono ?_;rintro _ w2 ⟨rfl,_,_,hw⟩;rw [HI.out];have hw':=(hw HI.out).symm;subst hw';clear hw;go_wp2_with fail;refine nL.out.mono ?_;intro e w4 he;have aR:=zh he;obtain⟨b,rfl⟩:=he.thrown;clear he;go_wp2_with fail;refine⟨rfl,?_⟩;rw [HRR.out _ HX.out];exact aR.out.eH (HC.out)
    | ok x r=>
     have HX:=zh hx;have hxl:=HM.out _ _ _ hx;rw [HX.out] at nL;clear hx;go_wp2_with fail;refine HT.out.mono ?_;rintro _ w2 ⟨rfl,_,_,hw⟩;rw [HI.out];have hw':=(hw HI.out).symm;subst hw';clear hw;go_wp2_with fail;refine nL.out.mono ?_;rintro e w4 ⟨hc4,v4,rfl,hv4,gy⟩;obtain⟨b4,rfl⟩:=hv4.ptr;have cu:=zh hc4;have vk:=zh hv4;have oq:=zh gy;have pz:=cK HO.out ((ae.refl [bp] wr).then hc4) (fun g hg hm=>by have:=HF.out g hg;simp at hm;omega);have yo:=cK pz ((ae.refl [] w4).alloc (.cells #[ptr b4] 166)) (by simp);have rX:=zh yo;clear hc4 hv4 gy pz yo;go_wp2_with (at_builtin;go_must (refine pO rfl _ _ 190 rfl 166 _ 1 8 Gh Tryz.underlying190 rfl (by decide) _ _ _ rfl rX.out ⟨w4.heap.size,0,none⟩ 1 1 [_] rfl rfl (Aj _ _ _) (by simp [Value.oneCell']) ?_ ?_ ?_))
     ·omega
     ·unfold maxLen;omega
     ·intro v' w' hown' hch' cz
      have iV:=zh hown';clear hown';obtain⟨kU,bH,yt⟩:=grow_step hB hbp hbt (HC.out) cu.out oq.out HF.out hch' cz;have jC : ∀ g∈blk _,g < wr.heap.size:=fun g hg=>Nat.lt_of_lt_of_le (qC HO.out g hg) (ae.refl [bp] wr).size
      have yu:=(Ch acc vs).call qh.out ((ae.refl [bp] wr).then cu.out) hbp;have hx4:=(Ad x [ptr b4]).fresh vk.out jC (HC.out).size;have yw:=(Ch acc vs).app yu hch' cz;have hx5:=(Ad x [ptr b4]).app hx4 hch' cz;have Fg:=zh (kE.snoc yw hx5);have nH:=zh kU;have cO:=zh bH;have Ci:=zh yt;clear hch' cz kU bH yt yu hx4 yw hx5 jC;go_wp2_with fail;refine⟨⟨f,false,acc ++ [x],vs ++ [ptr b4],r,rfl,HRR.out _ HX.out,by omega,by simp;omega,nH.out,by simpa using iV.out,Fg.out,Ci.out,cO.out⟩,?_⟩;rw [nH.out.cnt,HP.out.cnt];omega
   | false=>
    have Af:=zh (gP [44] wr B bp bt z ts' HP.out);cases hcm : see [44] ts' with
    | false=>
     have HRR:=zh (show jh z (ex z) (ts.length + 1) true [] ts.tail = .bad 3 (hd z ts') by rw [HR.out,jh,hsc,if_neg (by simp),if_pos ⟨rfl,hcm⟩]);rw [must,hcm,if_neg (by simp)] at Af;clear hsc hcm;go_wp2_with fail;refine HT.out.mono ?_;rintro _ w2 ⟨rfl,_,_,hw⟩;rw [HI.out];have hw':=(hw HI.out).symm;subst hw';clear hw;go_wp2_with fail;refine Af.out.mono ?_;intro e w4 he;have aR:=zh he;obtain⟨b,rfl⟩:=he.thrown;clear he;go_wp2_with fail;refine⟨rfl,?_⟩;rw [HRR.out];exact aR.out.eH HC.out
    | true=>
     have hct:=sS hcm;have HRR:Hid (∀ q,ex z ts'.tail=q→jh z (ex z) (ts.length + 1) true [] ts.tail=match q with | .bad e p=>.bad e p | .ok x r=>jh z (ex z) f false (acc ++ [x]) r):=zh (fun q hq=>by rw [HR.out,jh,hsc,if_neg (by simp),if_neg (by rw [hcm];simp),if_neg (by simp),hq];cases q <;> rfl);rw [must,hcm,if_pos rfl] at Af;clear hsc hcm;go_wp2_with fail;refine HT.out.mono ?_;rintro _ w2 ⟨rfl,_,_,hw⟩;rw [HI.out];have hw':=(hw HI.out).symm;subst hw';clear hw;go_wp2_with fail;refine Af.out.mono ?_;rintro _ w3 ⟨hc3,_,rfl,rfl,hp3⟩;have bz:=zh hc3;have qo:=zh hp3;clear hc3 hp3;have nL:=zh (HE.out w3 B bp bt z ts'.tail qo.out);cases hx : ex z (ts'.tail) with
     | bad en p=>
      have HX:=zh hx;rw [HX.out] at nL;clear hx;go_wp2_with fail;refine nL.out.mono ?_;intro e w4 he;have aR:=zh he;obtain⟨b,rfl⟩:=he.thrown;clear he;go_wp2_with fail;refine⟨rfl,?_⟩;rw [HRR.out _ HX.out];exact aR.out.eH (HC.out.then bz.out)
     | ok x r=>
      have HX:=zh hx;have hxl:=HM.out _ _ _ hx;rw [HX.out] at nL;clear hx;go_wp2_with fail;refine nL.out.mono ?_;rintro e w4 ⟨hc4,v4,rfl,hv4,gy⟩;obtain⟨b4,rfl⟩:=hv4.ptr;have cu:=zh hc4;have vk:=zh hv4;have oq:=zh gy;have pz:=cK HO.out ((bz.out).then hc4) (fun g hg hm=>by have:=HF.out g hg;simp at hm;omega);have yo:=cK pz ((ae.refl [] w4).alloc (.cells #[ptr b4] 166)) (by simp);have rX:=zh yo;clear hc4 hv4 gy pz yo;go_wp2_with (at_builtin;go_must (refine pO rfl _ _ 190 rfl 166 _ 1 8 Gh Tryz.underlying190 rfl (by decide) _ _ _ rfl rX.out ⟨w4.heap.size,0,none⟩ 1 1 [_] rfl rfl (Aj _ _ _) (by simp [Value.oneCell']) ?_ ?_ ?_))
      ·omega
      ·unfold maxLen;omega
      ·intro v' w' hown' hch' cz
       have iV:=zh hown';clear hown';obtain⟨kU,bH,yt⟩:=grow_step hB hbp hbt (HC.out.then bz.out) cu.out oq.out HF.out hch' cz;have jC : ∀ g∈blk _,g < w3.heap.size:=fun g hg=>Nat.lt_of_lt_of_le (qC HO.out g hg) bz.out.size
       have yu:=(Ch acc vs).call qh.out ((bz.out).then cu.out) hbp;have hx4:=(Ad x [ptr b4]).fresh vk.out jC (HC.out.then bz.out).size;have yw:=(Ch acc vs).app yu hch' cz;have hx5:=(Ad x [ptr b4]).app hx4 hch' cz;have Fg:=zh (kE.snoc yw hx5);have nH:=zh kU;have cO:=zh bH;have Ci:=zh yt;clear hch' cz kU bH yt yu hx4 yw hx5 jC;go_wp2_with fail;refine⟨⟨f,false,acc ++ [x],vs ++ [ptr b4],r,rfl,HRR.out _ HX.out,by omega,by simp;omega,nH.out,by simpa using iV.out,Fg.out,Ci.out,cO.out⟩,?_⟩;rw [nH.out.cnt,HP.out.cnt];omega
end Go.Proofs.YtechofppmnnomaaGreatDoor
namespace Go.Mq.Tree
open Go Go.RowKit Go.Mq
def rA (z:Nat) (ex:Ps E) (p:Nat) (q:List UInt8 × List UInt8):Ps E:=fun r=>if see [91] r then match ex r.tail with
  | .bad e p=>.bad e p
  | .ok i r2=>match must z [93] r2 with
   | .bad e p=>.bad e p
   | .ok _ r3=>.ok (.item p q.1 q.2 i) r3
 else if see [40] r then match jh z ex (r.length + 1) true [] r.tail with
  | .bad e p=>.bad e p
  | .ok l r2=>.ok (.app p q.1 q.2 (E.ofList l)) r2
 else .ok (.var p q.1 q.2) r
theorem Cj (z:Nat) (ex:Ps E) (ts:List Tok) : named z ex ts=match pQ z ts with
  | .bad e p=>.bad e p
  | .ok q r=>rA z ex (hd z ts) q r:=rfl
theorem ag4 (z:Nat):pJ (pQ z):=by
 intro ts a r h;rw [pQ] at h;cases h1 : name z ts with
 | bad e p=>rw [h1] at h;cases h
 | ok n r1=>
  rw [h1] at h;have g1:=NQ h1;simp only at h;split at h
  ·rename_i hs
   have g2:=sS hs;cases h2 : name z r1.tail with
   | bad e p=>rw [h2] at h;cases h
   | ok n2 r2=>
    rw [h2] at h;have g3:=NQ h2;cases h
    omega
  ·cases h;omega
theorem uI {z:Nat} {s:List UInt8} {ts r:List Tok} {u:Unit} (h : must z s ts = .ok u r) : r.length + 1=ts.length:=by
 rw [must] at h;split at h
 ·rename_i hs;cases h;exact sS hs
 ·cases h
theorem ag5 {z:Nat} {ex:Ps E} (he:pJ ex) (p:Nat) (q:List UInt8 × List UInt8):aM (rA z ex p q):=by
 intro ts a r h;rw [rA] at h;split at h
 ·cases h1 : ex ts.tail with
  | bad e p=>rw [h1] at h;cases h
  | ok i r2=>
   rw [h1] at h;have g1:=he _ _ _ h1;cases h2 : must z [93] r2 with
   | bad e p=>simp only [h2] at h;cases h
   | ok u r3=>
    simp only [h2] at h;have g2:=uI h2;cases h
    simp at g1
    omega
 ·split at h
  ·cases h1 : jh z ex (ts.length + 1) true [] ts.tail with
   | bad e p=>rw [h1] at h;cases h
   | ok l r2=>
    rw [h1] at h;have g1:=ag2 he _ _ _ _ _ _ h1;cases h
    simp at g1
    omega
  ·cases h;exact Nat.le_refl _
theorem We {z:Nat} {ex:Ps E} (he:pJ ex):pJ (named z ex):=by
 intro ts a r h;rw [Cj] at h;cases h1 : pQ z ts with
 | bad e p=>rw [h1] at h;cases h
 | ok q r1=>
  rw [h1] at h;have g1:=ag4 z _ _ _ h1;have g2:=ag5 he _ _ _ _ _ h;omega
def Jc (w wr:World):Nat→Prop:=fun b=>w.heap.size≤b∧b < wr.heap.size∧b≠w.heap.size
end Go.Mq.Tree
namespace Go.Proofs.YtechofppmnnomaaGreatDoor
open Go Go.RowKit Go.Mq Go.Mq.Tree
set_option maxRecDepth 100000
set_option maxHeartbeats 8000000
theorem Fh {w:World} {B bp bt z:Nat} {ts:List Tok} (h:bP w B bp bt z ts) : ∃ off c n,w.cell? ⟨bp,0,none⟩=some (.slice (some ⟨bt,off,none⟩) (n + 1) c)∧w.cell? ⟨bt,off + 2,none⟩=some (.int .i64 (hd z ts)):=by
 cases ts with
 | nil=>obtain⟨off,c,c0,_,c2,_⟩:=yB h;exact⟨off,c,0,c0,c2⟩
 | cons t r=>obtain⟨off,c,_,c0,_,_,c2,_⟩:=uM h;exact⟨off,c,r.length + 1,c0,c2⟩
theorem Wh (deep:Nat) (hdp : deep≤11) (ex:Nat→Ps E) (hE:uH 0 (deep + 1) ex) (Ae : ∀ z,pJ (ex z)) (w:World) (B bp bt z:Nat) (ts:List Tok) (h:bP w B bp bt z ts) :
  Calls Tryz.prog 164 #[ptr bp,.int .i64 deep] w (eO w B bp bt z (named z (ex z) ts) (EV w)):=by
 have HE:=zh (NT hE);have H:=zh h;obtain⟨off,c,nn,c0,c2⟩:=Fh h;have hB:=h.laid.le;have hbp:=h.rz;have hbt:=h.vW;have hwr:=Ff hdp;have hxb : w.heap.size≠bp:=by omega
 have hxt : w.heap.size≠bt:=by omega
 clear h
 go_enter Tryz.func164,Tryz.ntmps164
 go_wp2_with fail;have hc1:ae [bp] w (w.alloc (.cells #[.int .i64 2,.int .i64 (hd z ts),.int .i64 0,str [],str [],str [],aI,aI,ah] 192)):=(ae.refl _ _).alloc _;have hp1:bP (w.alloc (.cells #[.int .i64 2,.int .i64 (hd z ts),.int .i64 0,str [],str [],str [],aI,aI,ah] 192)) B bp bt z ts:=H.out.kept ((ae.refl [] w).alloc _) (by simp) (by simp) (by simp);have hb1:=ag.new w #[.int .i64 2,.int .i64 (hd z ts),.int .i64 0,str [],str [],str [],aI,aI,ah] 192;have zV:=zh (Cc _ B bp bt z ts hp1);have cB:=zh hc1;have HB1:=zh hb1;clear hc1 hp1 hb1;cases hn : name z ts with
 | bad en p=>
  have HRR:=zh (show named z (ex z) ts = .bad en p by rw [Cj,pQ,hn]);rw [hn] at zV;clear hn;refine zV.out.mono ?_;intro e w6 he;have aR:=zh he;obtain⟨b,rfl⟩:=he.thrown;clear he;go_wp2_with fail;refine⟨rfl,?_⟩;rw [HRR.out];exact aR.out.eH (cB.out)
 | ok n r=>
  have NU:=zh hn;rw [hn] at zV;clear hn;refine zV.out.mono ?_;rintro e w2 ⟨hc2,_,rfl,rfl,hp2⟩;have hb2:=HB1.out.kept hc2 (by simpa using hxb);have f4:=hb2.frozen 4;have e4:=hb2.cell 4 _ rfl;have hb3:=hb2.set 4 (str n);have hc3:=ae.set1 w2 w.heap.size 4 (str n);have Wi:ae [bp] w (w2.setCell ⟨w.heap.size,4,none⟩ (str n)):=(cB.out.then hc2).trans hc3 (fun x hx=>.inr (by simp at hx;omega));have hp3:=hp2.kept hc3 (fun x hx=>by simp at hx;omega) (by simpa using Ne.symm hxb) (by simp;omega);have HB3:=zh hb3;have Wj:=zh Wi;have qo:=zh hp3;clear hc2 hp2 hb2 hb3 hc3 Wi hp3;go_wp2_with fail
  generalize w2.setCell ⟨w.heap.size,4,none⟩ (str n)=w3 at *
  have xq:=zh (kT [46] w3 B bp bt z r qo.out);cases h4 : see [46] r
  case' false=>
   have HI4:=zh h4;obtain⟨q,hq⟩ : ∃ q:List UInt8 × List UInt8,q=([],n):=⟨_,rfl⟩
   have HN:Hid (named z (ex z) ts=rA z (ex z) (hd z ts) q r):=zh (by rw [Cj,pQ,NU.out];simp only [h4,hq];rfl);clear h4;refine xq.out.mono ?_;rintro _ w4 ⟨rfl,_,_,hw⟩;rw [HI4.out];have hw':=(hw HI4.out).symm;subst hw';clear hw;have HQ:Hid (ag w3 w.heap.size #[.int .i64 2,.int .i64 (hd z ts),.int .i64 0,str q.1,str q.2,str [],aI,aI,ah] 192):=zh (by rw [hq];simpa using HB3.out);have hb5:=zh HQ.out.lt;clear hq;have Fj:=qo;have uC:=Wj;obtain⟨wq,rfl⟩ : ∃ x,x=w3:=⟨_,rfl⟩
   obtain⟨r',rfl⟩ : ∃ x,x=r:=⟨_,rfl⟩
  case' true=>
   have HI4:=zh h4;have h4t:=sS h4;clear h4;refine xq.out.mono ?_;rintro _ w4 ⟨rfl,gy,hc4,_⟩;rw [HI4.out];rw [skip,HI4.out,if_pos rfl] at gy;have hb4:=(HB3.out.kept hc4 (by simpa using hxb)).kept ((ae.refl [] w4).drew) (by simp);have Wl : w4.drew.cell? ⟨w.heap.size,4,none⟩=some (str n):=hb4.cell 4 _ rfl;have sQ:=zh hb4;have Fp:ae [bp] w w4.drew:=(Wj.out.then hc4).drew;have Wm:=zh Fp;have Bi:=zh (Cc w4.drew B bp bt z r.tail (gy.kept ((ae.refl [] w4).drew) (by simp) (by simp) (by simp)));have hag : ∀ w,(isAgg 9).run Tryz.prog w = .ok false w:=Tryz.isAgg9
   clear gy hc4 hb4 Fp;cases hn2 : name z r.tail
   case' bad en p=>
    have HRR:=zh (show named z (ex z) ts = .bad en p by rw [Cj,pQ,NU.out];simp only [HI4.out,if_true,hn2]);rw [hn2] at Bi;clear hn2;go_wp2_with fail;refine Fa 7 [true,true,true,true,true,true,true] rfl (by kernel_rfl) (by kernel_rfl) rfl ?_
    repeat ((with_reducible show bU _ _ _ _ _ _ _ _);(first|refine aL ?_|refine oW rfl ?_|refine lg rfl rfl (by kernel_rfl) (fun _ _=>?_)|refine qd rfl rfl rfl (by exact⟨_,_,Wl⟩) (fun _ _=>?_));go_wp2_with fail)
    refine Bi.out.mono ?_;intro e w6 he;have aR:=zh he;obtain⟨b,rfl⟩:=he.thrown;clear he;intro a' ha;refine⟨ha,?_⟩;rw [HRR.out];exact aR.out.eH Wm.out
   case' ok n2 r2=>
    have HN:Hid (named z (ex z) ts=rA z (ex z) (hd z ts) (n,n2) r2):=zh (by rw [Cj,pQ,NU.out];simp only [HI4.out,if_true,hn2]);rw [hn2] at Bi;clear hn2;go_wp2_with fail;refine agz (fun w'=>ae [bp,w.heap.size] w4.drew w'∧w'.cell? ⟨w.heap.size,4,none⟩=some (str n)) rfl (by kernel_rfl) rfl ⟨ae.refl _ _,Wl⟩ ?_
    repeat ((with_reducible show bU _ _ _ _ _ _ _ _);(first|refine lg rfl rfl (by kernel_rfl) (fun _ _=>?_));go_wp2_with fail)
    refine agy rfl rfl rfl (str n) hag (fun _ h=>h.2) ?_
    repeat ((with_reducible show bU _ _ _ _ _ _ _ _);(first|refine lg rfl rfl (by kernel_rfl) (fun _ _=>?_));go_wp2_with fail)
    refine NI rfl rfl rfl (fun _ _=>?_);go_wp2_with fail;refine Bi.out.mono ?_;rintro e w6 ⟨hc6,_,rfl,rfl,dF⟩;have hs4 : w.heap.size < w4.drew.heap.size:=sQ.out.lt;have hb6:=sQ.out.kept hc6 (by simpa using hxb);have f63:=hb6.frozen 3;have f64:=hb6.frozen 4;have e63:=hb6.cell 3 _ rfl;have e64:=hb6.cell 4 _ rfl;have bD:=zh hc6;have iU:=zh dF;have lY:=zh hb6;clear hc6 dF hb6;go_wp2_with fail;refine And.intro ⟨bD.out.mono (fun x hx=>.inl (by simp at hx;simp [hx])),e64⟩ ?_
    repeat ((with_reducible show bU _ _ _ _ _ _ _ _);(first|refine lg rfl rfl (by kernel_rfl) (fun _ _=>?_));go_wp2_with fail)
    refine NI rfl rfl rfl (fun _ _=>?_);go_wp2_with fail;have dR:=lY.out.set 3 (str n);have f74:=dR.frozen 4;have e74:=dR.cell 4 _ rfl;have rC:=zh dR;clear dR;refine And.intro ⟨(bD.out.mono (fun x hx=>.inl (by simp at hx;simp [hx]))).setCell _ (.inl (by simp)) _,e74⟩ ?_
    repeat ((with_reducible show bU _ _ _ _ _ _ _ _);(first|refine lg rfl rfl (by kernel_rfl) (fun _ _=>?_));go_wp2_with fail)
    refine tN rfl rfl (fun _ _=>?_);go_wp2_with fail;have eD:=rC.out.set 4 (str n2);have hc8:ae [w.heap.size] w6 ((w6.setCell ⟨w.heap.size,3,none⟩ (str n)).setCell ⟨w.heap.size,4,none⟩ (str n2)):=(ae.set1 _ _ _ _).then (ae.set1 _ _ _ _)
    have Wn:ae [bp] w ((w6.setCell ⟨w.heap.size,3,none⟩ (str n)).setCell ⟨w.heap.size,4,none⟩ (str n2)):=(Wm.out.then bD.out).trans hc8 (fun x hx=>.inr (by simp at hx;omega));have mO:=iU.out.kept hc8 (fun x hx=>by simp at hx;omega) (by simpa using Ne.symm hxb) (by simp;omega);obtain⟨q,hq⟩ : ∃ q:List UInt8 × List UInt8,q=(n,n2):=⟨_,rfl⟩
    have HQ:Hid (ag ((w6.setCell ⟨w.heap.size,3,none⟩ (str n)).setCell ⟨w.heap.size,4,none⟩ (str n2)) w.heap.size #[.int .i64 2,.int .i64 (hd z ts),.int .i64 0,str q.1,str q.2,str [],aI,aI,ah] 192):=zh (by rw [hq];simpa using eD);rw [← hq] at HN;have Fj:=zh mO;have uC:=zh Wn;have hb5:=zh HQ.out.lt;clear eD hc8 Wn mO f63 f64 e63 e64 f74 e74 hq lY rC
    generalize (w6.setCell ⟨w.heap.size,3,none⟩ (str n)).setCell ⟨w.heap.size,4,none⟩ (str n2)=wq at *
    obtain⟨r',rfl⟩ : ∃ x,x=r2:=⟨_,rfl⟩
  all_goals
   have lQ:=zh (kT [91] wq B bp bt z r' Fj.out);cases h5 : see [91] r' with
   | true=>
    have fF:=zh h5;have h5t:=sS h5;clear h5
    first|refine lQ.out.mono ?_|(go_wp2_with fail;refine lQ.out.mono ?_)
    rintro _ w5 ⟨rfl,kU,bH,_⟩;rw [fF.out];rw [skip,fF.out,if_pos rfl] at kU;have nH:=zh kU;have cO:=zh bH;clear kU bH;have nL:=zh (HE.out w5 B bp bt z r'.tail nH.out);go_wp2_with fail;refine nL.out.mono ?_;intro e w6 he;rcases he.part with⟨en,p,b,rfl,hx,aR⟩|⟨i,r6,hx,he⟩
    ·go_wp2_with fail;exact⟨rfl,by rw [show named z (ex z) ts = .bad en p by rw [HN.out,rA,if_pos fF.out,hx.out]];exact aR.out.eH (uC.out.then cO.out)⟩
    have HX:=hx;obtain⟨hc6,v6,rfl,hv6,dF⟩:=he;clear hx;obtain⟨b6,rfl⟩:=hv6.ptr;have bD:=zh hc6;have qB:=zh hv6;have iU:=zh dF;have hb6:=HQ.out.kept (cO.out.then hc6) (by simpa using hxb);have f60:=hb6.frozen 0;have f66:=hb6.frozen 6;have e60:=hb6.cell 0 _ rfl;have e66:=hb6.cell 6 _ rfl;have dR:=(hb6.set 0 (.int .i64 3)).set 6 (ptr b6);have dQ:ae [w.heap.size] w6 ((w6.setCell ⟨w.heap.size,0,none⟩ (.int .i64 3)).setCell ⟨w.heap.size,6,none⟩ (ptr b6)):=(ae.set1 _ _ _ _).then (ae.set1 _ _ _ _)
    have rC:=zh dR;have gH:=zh dQ;have Wo:ae [bp] w ((w6.setCell ⟨w.heap.size,0,none⟩ (.int .i64 3)).setCell ⟨w.heap.size,6,none⟩ (ptr b6)):=((uC.out.then cO.out).then hc6).trans dQ (fun x hx=>.inr (by simp at hx;omega));have Wp:=zh Wo;have mP:=iU.out.kept dQ (fun x hx=>by simp at hx;omega) (by simpa using Ne.symm hxb) (by simp;omega);have iI:=zh (gP [93] _ B bp bt z r6 mP);have BH:=zh (show w.heap.size≤w5.heap.size from(uC.out.then cO.out).size);clear hc6 hv6 dF hb6 dR dQ Wo mP;go_wp2_with fail;cases h8 : see [93] r6 with
    | false=>
     have HRR:=zh (show named z (ex z) ts = .bad 3 (hd z r6) by rw [HN.out,rA,if_pos fF.out,HX.out];simp [must,h8]);rw [must,h8,if_neg (by simp)] at iI;clear h8;refine iI.out.mono ?_;intro e w8 he;have aR:=zh he;obtain⟨b,rfl⟩:=he.thrown;clear he;go_wp2_with fail;refine⟨rfl,?_⟩;rw [HRR.out];exact aR.out.eH (Wp.out)
    | true=>
     have HRR:=zh (show named z (ex z) ts = .ok (.item (hd z ts) q.1 q.2 i) r6.tail by rw [HN.out,rA,if_pos fF.out,HX.out];simp [must,h8]);rw [must,h8,if_pos rfl] at iI;clear h8;refine iI.out.mono ?_;rintro e w8 ⟨hc8,_,rfl,rfl,mO⟩;have fO:=zh hc8;have vY:=zh mO;clear hc8 mO;go_wp2_with fail;go_ret
     rw [HRR.out];refine⟨Wp.out.then fO.out,_,rfl,?_,vY.out⟩;have eD:=rC.out.kept fO.out (by simpa using hxb);have zQ:aY w6 (Jc w w6) i [ptr b6]:=qB.out.mono fun x hx=>⟨Nat.le_trans BH.out hx.1,hx.2,by have:=hx.1;have:=hb5.out;have:=cO.out.size;omega⟩
     have hi7:=zQ.kept gH.out (fun x hx hn=>by simp at hx;exact hn.2.2 hx);have hi8:=hi7.kept fO.out (fun x hx hn=>by simp at hx;have:=hn.1;omega);have hsz : w6.heap.size≤w8.heap.size:=Nat.le_trans gH.out.size fO.out.size;refine⟨w.heap.size,ptr b6,rfl,⟨Nat.le_refl _,eD.lt⟩,?_,hi8.mono fun x hx=>⟨hx.1,Nat.lt_of_lt_of_le hx.2.1 hsz⟩⟩
     simpa using eD
   | false=>
    have fF:=zh h5;clear h5;have pE:=zh (yl [40] wq B bp bt z r' Fj.out);cases h6 : see [40] r' with
    | true=>
     have Ck:=zh h6;have AQ:=zh (ag3 deep hdp ex hE Ae wq B bp bt z r' Fj.out h6);clear h6;cases hx : jh z (ex z) (r'.length + 1) true [] r'.tail with
     | bad en p=>
      have HRR:=zh (show named z (ex z) ts = .bad en p by rw [HN.out,rA,if_neg (by rw [fF.out];simp),if_pos Ck.out,hx]);rw [hx] at AQ;clear hx
      first|refine lQ.out.mono ?_|(go_wp2_with fail;refine lQ.out.mono ?_)
      rintro _ w5 ⟨rfl,_,_,hw⟩;rw [fF.out];have hw':=(hw fF.out).symm;subst hw';clear hw;go_wp2_with fail;refine pE.out.mono ?_;rintro _ w6 ⟨rfl,rfl⟩;rw [Ck.out];go_wp2_with fail;refine AQ.out.mono ?_;intro e w6 he;have aR:=zh he;obtain⟨b,rfl⟩:=he.thrown;clear he;go_wp2_with fail;refine⟨rfl,?_⟩;rw [HRR.out];exact aR.out.eH (uC.out)
     | ok l r6=>
      have HRR:=zh (show named z (ex z) ts = .ok (.app (hd z ts) q.1 q.2 (E.ofList l)) r6 by rw [HN.out,rA,if_neg (by rw [fF.out];simp),if_pos Ck.out,hx]);rw [hx] at AQ;clear hx
      first|refine lQ.out.mono ?_|(go_wp2_with fail;refine lQ.out.mono ?_)
      rintro _ w5 ⟨rfl,_,_,hw⟩;rw [fF.out];have hw':=(hw fF.out).symm;subst hw';clear hw;go_wp2_with fail;refine pE.out.mono ?_;rintro _ w6 ⟨rfl,rfl⟩;rw [Ck.out];go_wp2_with fail;refine AQ.out.mono ?_;rintro e w6 ⟨hc6,v6,rfl,⟨a6,c6,NV,rfl,hv1,hv2,hv3⟩,dF⟩;have bD:=zh hc6;have iU:=zh dF;have qB:=zh (And.intro hv1 (And.intro hv2 hv3));have hb6:=HQ.out.kept hc6 (by simpa using hxb);have f60:=hb6.frozen 0;have f68:=hb6.frozen 8;have e60:=hb6.cell 0 _ rfl;have e68:=hb6.cell 8 _ rfl;have dR:=(hb6.set 0 (.int .i64 6)).set 8 (.slice a6 NV.length c6);have dQ:ae [w.heap.size] w6 ((w6.setCell ⟨w.heap.size,0,none⟩ (.int .i64 6)).setCell ⟨w.heap.size,8,none⟩ (.slice a6 NV.length c6)):=(ae.set1 _ _ _ _).then (ae.set1 _ _ _ _)
      have rC:=zh dR;have gH:=zh dQ;have BH:=zh (show w.heap.size < _ from HQ.out.lt);clear hc6 hv1 hv2 hv3 dF hb6 dR dQ;go_wp2_with fail;go_ret
      rw [HRR.out];refine⟨(uC.out.then bD.out).trans gH.out (fun x hx=>.inr (by simp at hx;omega)),_,rfl,?_,iU.out.kept gH.out (fun x hx=>by simp at hx;omega) (by simpa using Ne.symm hxb) (by simp;omega)⟩;obtain⟨hv1,hv2,hv3⟩:=qB.out;have hF : ∀ x,New _ w6 x→Jc w w6 x:=fun x hx=>⟨Nat.le_trans uC.out.size hx.1,hx.2,by have:=hx.1;have:=BH.out;omega⟩
      have hk : ∀ x∈[w.heap.size],¬ Jc w w6 x:=fun x hx hn=>by simp at hx;exact hn.2.2 hx
      have Cm:=(hv2.mono hF).kept gH.out hk;have he7:=(kE.mono hF hv3).kept gH.out hk;have hG : ∀ x,Jc w w6 x→New w _ x:=fun x hx=>⟨hx.1,Nat.lt_of_lt_of_le hx.2.1 gH.out.size⟩
      refine⟨w.heap.size,a6,c6,NV,rfl,⟨Nat.le_refl _,rC.out.lt⟩,?_,hv1,Cm.mono hG,(he7.mono hG).one⟩
      simpa using rC.out
    | false=>
     have Ck:=zh h6;have HRR:=zh (show named z (ex z) ts = .ok (.var (hd z ts) q.1 q.2) r' by rw [HN.out,rA,if_neg (by rw [fF.out];simp),if_neg (by rw [h6];simp)]);clear h6
     first|refine lQ.out.mono ?_|(go_wp2_with fail;refine lQ.out.mono ?_)
     rintro _ w5 ⟨rfl,_,_,hw⟩;rw [fF.out];have hw':=(hw fF.out).symm;subst hw';clear hw;go_wp2_with fail;refine pE.out.mono ?_;rintro _ w6 ⟨rfl,rfl⟩;rw [Ck.out];go_wp2_with fail;go_ret
     rw [HRR.out];exact⟨uC.out,_,rfl,⟨w.heap.size,rfl,⟨Nat.le_refl _,HQ.out.lt⟩,HQ.out⟩,Fj.out⟩
end Go.Proofs.YtechofppmnnomaaGreatDoor
namespace Go.Mq.Tree
open Go Go.RowKit Go.Mq
def isNum:List Tok→Bool
 | []=>false
 | t :: _=>decide (t.kind = .number)
theorem sU (z d:Nat) (ts:List Tok) : one z (d + 1) ts=if see [45] ts then (match one z d ts.tail with
   | .bad e p=>.bad e p
   | .ok x r=>.ok (.un (hd z ts) [45] x) r)
  else if see [110,111,116] ts then (match one z d ts.tail with
   | .bad e p=>.bad e p
   | .ok x r=>.ok (.un (hd z ts) [110,111,116] x) r)
  else if see [40] ts then (match expr z (one z d) 5 ts.tail with
   | .bad e p=>.bad e p
   | .ok x r=>match must z [41] r with
    | .bad e p=>.bad e p
    | .ok _ r2=>.ok x r2)
  else if isNum ts then (match number z 9223372036854775807 ts with
   | .bad e p=>.bad e p
   | .ok n r=>.ok (.num (hd z ts) n) r)
  else named z (expr z (one z d) 5) ts:=by
 cases ts with
 | nil=>rfl
 | cons t r=>
  rw [one];simp only [isNum,decide_eq_true_eq]
  rfl
theorem ag9 {z:Nat} {most:Int} {ts r:List Tok} {n:Int} (h : number z most ts = .ok n r) : r.length + 1=ts.length:=by
 cases ts with
 | nil=>cases h
 | cons t l=>
  rw [number] at h;split at h
  ·cases h
  ·split at h
   ·split at h
    ·cases h
    ·cases h;rfl
   ·cases h
theorem Cn (z:Nat) : ∀ d,pJ (one z d):=by
 intro d
 induction d with
 | zero=>intro ts a r h;cases h
 | succ d ih=>
  intro ts a r h;rw [sU] at h;split at h
  ·rename_i hs
   have g1:=sS hs;cases h1 : one z d ts.tail with
   | bad e p=>rw [h1] at h;cases h
   | ok x r2=>rw [h1] at h;cases h;have:=ih _ _ _ h1;omega
  ·split at h
   ·rename_i hs
    have g1:=sS hs;cases h1 : one z d ts.tail with
    | bad e p=>rw [h1] at h;cases h
    | ok x r2=>rw [h1] at h;cases h;have:=ih _ _ _ h1;omega
   ·split at h
    ·rename_i hs
     have g1:=sS hs;cases h1 : expr z (one z d) 5 ts.tail with
     | bad e p=>rw [h1] at h;cases h
     | ok x r2=>
      rw [h1] at h;have g2:=Ce ih 5 _ _ _ h1;cases h2 : must z [41] r2 with
      | bad e p=>simp only [h2] at h;cases h
      | ok u r3=>simp only [h2] at h;have g3:=uI h2;cases h;omega
    ·split at h
     ·cases h1 : number z 9223372036854775807 ts with
      | bad e p=>rw [h1] at h;cases h
      | ok n r2=>rw [h1] at h;cases h;have:=ag9 h1;omega
     ·exact We (Ce ih 5) _ _ _ h
end Go.Mq.Tree
namespace Go.Proofs.YtechofppmnnomaaGreatDoor
open Go Go.RowKit Go.Mq Go.Mq.Tree
set_option maxRecDepth 100000
set_option maxHeartbeats 8000000
theorem ag' {w:World} {B bp bt z:Nat} {ts:List Tok} (h:bP w B bp bt z ts) : ∃ off c n kv tv,w.cell? ⟨bp,0,none⟩=some (.slice (some ⟨bt,off,none⟩) (n + 1) c)∧w.cell? ⟨bt,off,none⟩=some (.int .i64 kv)∧w.cell? ⟨bt,off + 1,none⟩=some (str tv)∧w.cell? ⟨bt,off + 2,none⟩=some (.int .i64 (hd z ts))∧(kv == 2)=isNum ts:=by
 cases ts with
 | nil=>
  obtain⟨off,c,hb,hl,hc⟩:=h.at_;exact⟨off,c,0,4,[],hb.cell 0 _ rfl,hc 0 _ rfl,hc 1 _ rfl,hc 2 _ rfl,rfl⟩
 | cons t r=>
  obtain⟨off,c,_,c0,c1,c2,c3,_⟩:=uM h;exact⟨off,c,r.length + 1,t.kind.num,t.text,c0,c1,c2,c3,by cases hk : t.kind <;> simp [isNum,hk,Kind.num]⟩
theorem aha:Cf 11 0:=by
 intro w B bp bt z ts h;have HF:=zh (lK 4 w B bp bt z ts h);clear h
 go_enter Tryz.func162,Tryz.ntmps162
 go_wp2_with fail;refine HF.out.mono ?_;intro e w2 he;have HE:=zh he;obtain⟨b,rfl⟩:=he.thrown;clear he;go_wp2_with fail;exact⟨rfl,HE.out.eH (ae.refl _ _)⟩
theorem ahb (deep d:Nat) (hdp : deep + (d + 1)=11) (hO:Cf (deep + 1) d):Cf deep (d + 1):=by
 have Ae : ∀ z,pJ (expr z (one z d) 5):=fun z=>Ce (Cn z d) 5
 have hE:uH 0 (deep + 1) (fun z=>expr z (one z d) 5):=V9 (deep + 1) d hO (fun z=>(Cn z d).mono) (by omega) 5 (Nat.le_refl _);intro w B bp bt z ts h;have nL:=zh (NT hE);have HO:Hid (∀ (w:World) (B bp bt z:Nat) (ts:List Tok),bP w B bp bt z ts→Calls Tryz.prog 162 #[ptr bp,.int .i64 ((deep:Int) + 1)] w (eO w B bp bt z (one z d ts) (EV w))):=zh (fun w B bp bt z ts hp=>by
  have:=hO w B bp bt z ts hp
  simpa using this)
 have HNA:=zh (Wh deep (by omega) (fun z=>expr z (one z d) 5) hE Ae);have H:=zh h;obtain⟨off,c,nn,kv,tv,c0,c1,c2,c3,hk⟩:=ag' h;have HK:=zh hk;have hbp:=h.rz;have hwr:=Ff (deep:=deep) (by omega);have hxb : w.heap.size≠bp:=by omega
 have ajd : decide ((10:Int) < (deep:Int))=false:=decide_eq_false (by omega);have hp1:=h.kept ((ae.refl [] w).alloc (.cells #[.int .i64 kv,str tv,.int .i64 (hd z ts)] 91)) (by simp) (by simp) (by simp);have hb1:=ag.new w #[.int .i64 kv,str tv,.int .i64 (hd z ts)] 91;have hc1:ae [bp] w (w.alloc (.cells #[.int .i64 kv,str tv,.int .i64 (hd z ts)] 91)):=(ae.refl _ _).alloc _;have oz:=zh hp1;have HB1:=zh hb1;have cB:=zh hc1;have HT1:=zh (kT [45] _ B bp bt z ts hp1);clear h hE hO Ae hk hp1 hb1 hc1
 go_enter Tryz.func162,Tryz.ntmps162
 go_wp2_with fail
 generalize w.alloc (.cells #[.int .i64 kv,str tv,.int .i64 (hd z ts)] 91)=w1 at *
 cases hm : see [45] ts with
 | true=>
  have HI:=zh hm;clear hm;refine HT1.out.mono ?_;rintro _ w2 ⟨rfl,hp2,hc2,_⟩;rw [HI.out];rw [skip,HI.out,if_pos rfl] at hp2;have Fq:ae [bp] w w2.drew:=(cB.out.then hc2).drew;have hb2:=(HB1.out.kept hc2 (by simpa using hxb)).kept (ae.refl [] w2).drew (by simp);have pK : w2.drew.cell? ⟨w.heap.size,2,none⟩=some (.int .i64 (hd z ts)):=hb2.cell 2 _ rfl;have mQ:=zh Fq;have HB2:=zh hb2;have iR:=zh (HO.out w2.drew B bp bt z ts.tail (hp2.kept (ae.refl [] w2).drew (by simp) (by simp) (by simp)));clear hp2 hc2 Fq hb2;cases hx : one z d ts.tail with
  | bad en p=>
   have HRR:=zh (show one z (d + 1) ts = .bad en p by rw [sU,if_pos HI.out,hx]);rw [hx] at iR;clear hx;go_wp2_with fail;refine Fa 5 [true,true,true,true,true] rfl (by kernel_rfl) (by kernel_rfl) rfl ?_
   repeat ((with_reducible show bU _ _ _ _ _ _ _ _);(first|refine aL ?_|refine oW rfl ?_|refine lg rfl rfl (by kernel_rfl) (fun _ _=>?_)|refine qd rfl rfl rfl (by exact⟨_,_,pK⟩) (fun _ _=>?_));go_wp2_with fail)
   refine iR.out.mono ?_;intro e w6 he;have aR:=zh he;obtain⟨b,rfl⟩:=he.thrown;clear he;intro a' ha;refine⟨ha,?_⟩;rw [HRR.out];exact aR.out.eH mQ.out
  | ok x r6=>
   have HRR:=zh (show one z (d + 1) ts = .ok (.un (hd z ts) [45] x) r6 by rw [sU,if_pos HI.out,hx]);rw [hx] at iR;clear hx;go_wp2_with fail;refine kX [bp] rfl (by kernel_rfl) ?_;have hS:ae [bp] w2.drew w2.drew:=ae.refl _ _
   repeat ((with_reducible refine gX ?_);(first|refine aL ?_|refine sK ?_|refine sM fun _ _=>?_|refine sL (hz:=by exact bX.of pK (by simpa using hxb)) fun _ _=>?_|refine sE fun _ _=>?_);go_wp2_with fail)
   refine iR.out.mono ?_;rintro e w6 ⟨hc6,v6,rfl,hv6,dF⟩;obtain⟨b6,rfl⟩:=hv6.ptr;have bD:=zh hc6;have qB:=zh hv6;have iU:=zh dF;have hS2:=hc6;clear hc6 hv6 dF;go_wp2_with fail;refine And.intro (by assumption:ae _ _ _) ?_
   repeat ((with_reducible refine gX ?_);(first|refine aL ?_|refine sK ?_|refine sM fun _ _=>?_|refine sL (hz:=by exact bX.of pK (by simpa using hxb)) fun _ _=>?_|refine sE fun _ _=>?_);go_wp2_with fail)
   refine And.intro (ae.alloc (by assumption:ae _ _ _) _) ?_
   repeat ((with_reducible refine gX ?_);(first|refine aL ?_|refine sK ?_|refine sM fun _ _=>?_|refine sL (hz:=by exact bX.of pK (by simpa using hxb)) fun _ _=>?_|refine sE fun _ _=>?_);go_wp2_with fail)
   go_ret
   rw [HRR.out];have aO:=(ae.refl [bp] w6).alloc (.cells #[.int .i64 4,.int .i64 (hd z ts),.int .i64 0,str [],str [],str [45],ptr b6,aI,ah] 192);refine⟨(mQ.out.then bD.out).then aO,_,rfl,⟨w6.heap.size,ptr b6,rfl,⟨Nat.le_trans mQ.out.size bD.out.size,by simp⟩,ag.new _ _ _,(aY.later qB.out mQ.out.size).grown hbp aO⟩,iU.out.kept ((ae.refl [] w6).alloc _) (by simp) (by simp) (by simp)⟩
 | false=>
  have HI1:=zh hm;clear hm;refine HT1.out.mono ?_;rintro _ w2 ⟨rfl,_,_,hw⟩;rw [HI1.out];have hw':=(hw HI1.out).symm;subst hw';clear hw;have HT2:=zh (kT [110,111,116] _ B bp bt z ts oz.out);cases hm : see [110,111,116] ts with
  | true=>
   have HI:=zh hm;clear hm;go_wp2_with fail;refine HT2.out.mono ?_;rintro _ w2 ⟨rfl,hp2,hc2,_⟩;rw [HI.out];rw [skip,HI.out,if_pos rfl] at hp2;have Fq:ae [bp] w w2.drew:=(cB.out.then hc2).drew;have hb2:=(HB1.out.kept hc2 (by simpa using hxb)).kept (ae.refl [] w2).drew (by simp);have pK : w2.drew.cell? ⟨w.heap.size,2,none⟩=some (.int .i64 (hd z ts)):=hb2.cell 2 _ rfl;have mQ:=zh Fq;have HB2:=zh hb2;have iR:=zh (HO.out w2.drew B bp bt z ts.tail (hp2.kept (ae.refl [] w2).drew (by simp) (by simp) (by simp)));clear hp2 hc2 Fq hb2;cases hx : one z d ts.tail with
   | bad en p=>
    have HRR:=zh (show one z (d + 1) ts = .bad en p by rw [sU,if_neg (by rw [HI1.out];simp),if_pos HI.out,hx]);rw [hx] at iR;clear hx;go_wp2_with fail;refine Fa 5 [true,true,true,true,true] rfl (by kernel_rfl) (by kernel_rfl) rfl ?_
    repeat ((with_reducible show bU _ _ _ _ _ _ _ _);(first|refine aL ?_|refine oW rfl ?_|refine lg rfl rfl (by kernel_rfl) (fun _ _=>?_)|refine qd rfl rfl rfl (by exact⟨_,_,pK⟩) (fun _ _=>?_));go_wp2_with fail)
    refine iR.out.mono ?_;intro e w6 he;have aR:=zh he;obtain⟨b,rfl⟩:=he.thrown;clear he;intro a' ha;refine⟨ha,?_⟩;rw [HRR.out];exact aR.out.eH mQ.out
   | ok x r6=>
    have HRR:=zh (show one z (d + 1) ts = .ok (.un (hd z ts) [110,111,116] x) r6 by rw [sU,if_neg (by rw [HI1.out];simp),if_pos HI.out,hx]);rw [hx] at iR;clear hx;go_wp2_with fail;refine kX [bp] rfl (by kernel_rfl) ?_;have hS:ae [bp] w2.drew w2.drew:=ae.refl _ _
    repeat ((with_reducible refine gX ?_);(first|refine aL ?_|refine sK ?_|refine sM fun _ _=>?_|refine sL (hz:=by exact bX.of pK (by simpa using hxb)) fun _ _=>?_|refine sE fun _ _=>?_);go_wp2_with fail)
    refine iR.out.mono ?_;rintro e w6 ⟨hc6,v6,rfl,hv6,dF⟩;obtain⟨b6,rfl⟩:=hv6.ptr;have bD:=zh hc6;have qB:=zh hv6;have iU:=zh dF;have hS2:=hc6;clear hc6 hv6 dF;go_wp2_with fail;refine And.intro (by assumption:ae _ _ _) ?_
    repeat ((with_reducible refine gX ?_);(first|refine aL ?_|refine sK ?_|refine sM fun _ _=>?_|refine sL (hz:=by exact bX.of pK (by simpa using hxb)) fun _ _=>?_|refine sE fun _ _=>?_);go_wp2_with fail)
    refine And.intro (ae.alloc (by assumption:ae _ _ _) _) ?_
    repeat ((with_reducible refine gX ?_);(first|refine aL ?_|refine sK ?_|refine sM fun _ _=>?_|refine sL (hz:=by exact bX.of pK (by simpa using hxb)) fun _ _=>?_|refine sE fun _ _=>?_);go_wp2_with fail)
    go_ret
    rw [HRR.out];have aO:=(ae.refl [bp] w6).alloc (.cells #[.int .i64 4,.int .i64 (hd z ts),.int .i64 0,str [],str [],str [110,111,116],ptr b6,aI,ah] 192);refine⟨(mQ.out.then bD.out).then aO,_,rfl,⟨w6.heap.size,ptr b6,rfl,⟨Nat.le_trans mQ.out.size bD.out.size,by simp⟩,ag.new _ _ _,(aY.later qB.out mQ.out.size).grown hbp aO⟩,iU.out.kept ((ae.refl [] w6).alloc _) (by simp) (by simp) (by simp)⟩
  | false=>
   have HI2:=zh hm;clear hm;go_wp2_with fail;refine HT2.out.mono ?_;rintro _ w2 ⟨rfl,_,_,hw⟩;rw [HI2.out];have hw':=(hw HI2.out).symm;subst hw';clear hw;have HT3:=zh (kT [40] _ B bp bt z ts oz.out);cases hm : see [40] ts with
   | true=>
    have HI:=zh hm;clear hm;go_wp2_with fail;refine HT3.out.mono ?_;rintro _ w2 ⟨rfl,hp2,hc2,_⟩;rw [HI.out];rw [skip,HI.out,if_pos rfl] at hp2;have mQ:=zh (cB.out.then hc2);have HE2:=zh (nL.out w2 B bp bt z ts.tail hp2);clear hp2 hc2;go_wp2_with fail;refine HE2.out.mono ?_;intro e w6 he;rcases he.part with⟨en,p,b,rfl,hx,aR⟩|⟨x,r6,hx,he⟩
    ·go_wp2_with fail;exact⟨rfl,by rw [show one z (d + 1) ts = .bad en p by rw [sU,if_neg (by rw [HI1.out];simp),if_neg (by rw [HI2.out];simp),if_pos HI.out,hx.out]];exact aR.out.eH mQ.out⟩
    have HX:=hx;obtain⟨hc6,v6,rfl,hv6,dF⟩:=he;clear hx;have Wq:=zh (mQ.out.then hc6);have qB:=zh (aY.later hv6 mQ.out.size);have iI:=zh (gP [41] w6 B bp bt z r6 dF);clear hc6 hv6 dF;go_wp2_with fail;cases h8 : see [41] r6 with
    | false=>
     have HRR:=zh (show one z (d + 1) ts = .bad 3 (hd z r6) by rw [sU,if_neg (by rw [HI1.out];simp),if_neg (by rw [HI2.out];simp),if_pos HI.out,HX.out];simp [must,h8]);rw [must,h8,if_neg (by simp)] at iI;clear h8;refine iI.out.mono ?_;intro e w8 he;have aR:=zh he;obtain⟨b,rfl⟩:=he.thrown;clear he;go_wp2_with fail;refine⟨rfl,?_⟩;rw [HRR.out];exact aR.out.eH Wq.out
    | true=>
     have HRR:=zh (show one z (d + 1) ts = .ok x r6.tail by rw [sU,if_neg (by rw [HI1.out];simp),if_neg (by rw [HI2.out];simp),if_pos HI.out,HX.out];simp [must,h8]);rw [must,h8,if_pos rfl] at iI;clear h8;refine iI.out.mono ?_;rintro e w8 ⟨hc8,_,rfl,rfl,mO⟩;have fO:=zh hc8;have vY:=zh mO;clear hc8 mO;go_wp2_with fail;go_ret
     rw [HRR.out];exact⟨Wq.out.then fO.out,_,rfl,qB.out.grown hbp fO.out,vY.out⟩
   | false=>
    have HI3:=zh hm;clear hm;go_wp2_with fail;refine HT3.out.mono ?_;rintro _ w2 ⟨rfl,_,_,hw⟩;rw [HI3.out];have hw':=(hw HI3.out).symm;subst hw';clear hw;have e0 : w1.cell? ⟨w.heap.size,0,none⟩=some (.int .i64 kv):=HB1.out.cell 0 _ rfl;cases hn : isNum ts with
    | true=>
     have HI:=zh hn;have hk2 : (kv == 2)=true:=by rw [HK.out];exact hn
     have pK : w1.drew.cell? ⟨w.heap.size,2,none⟩=some (.int .i64 (hd z ts)):=HB1.out.cell 2 _ rfl;have mQ:=zh (cB.out.drew);have iR:=zh (V4 9223372036854775807 w1.drew B bp bt z ts (oz.out.kept (ae.refl [] w1).drew (by simp) (by simp) (by simp)));clear hn;cases hx : number z 9223372036854775807 ts with
     | bad en p=>
      have HRR:=zh (show one z (d + 1) ts = .bad en p by rw [sU,if_neg (by rw [HI1.out];simp),if_neg (by rw [HI2.out];simp),if_neg (by rw [HI3.out];simp),if_pos HI.out,hx]);rw [hx] at iR;clear hx;go_wp2_with fail;refine Fa 3 [true,true,true] rfl (by kernel_rfl) (by kernel_rfl) rfl ?_
      repeat ((with_reducible show bU _ _ _ _ _ _ _ _);(first|refine aL ?_|refine oW rfl ?_|refine lg rfl rfl (by kernel_rfl) (fun _ _=>?_)|refine qd rfl rfl rfl (by exact⟨_,_,pK⟩) (fun _ _=>?_));go_wp2_with fail)
      refine iR.out.mono ?_;intro e w6 he;have aR:=zh he;obtain⟨b,rfl⟩:=he.thrown;clear he;intro a' ha;refine⟨ha,?_⟩;rw [HRR.out];exact aR.out.eH mQ.out
     | ok x r6=>
      have HRR:=zh (show one z (d + 1) ts = .ok (.num (hd z ts) x) r6 by rw [sU,if_neg (by rw [HI1.out];simp),if_neg (by rw [HI2.out];simp),if_neg (by rw [HI3.out];simp),if_pos HI.out,hx]);rw [hx] at iR;clear hx;go_wp2_with fail;refine kX [bp] rfl (by kernel_rfl) ?_;have hS:ae [bp] w1.drew w1.drew:=ae.refl _ _
      repeat ((with_reducible refine gX ?_);(first|refine aL ?_|refine sK ?_|refine sM fun _ _=>?_|refine sL (hz:=by exact bX.of pK (by simpa using hxb)) fun _ _=>?_|refine sE fun _ _=>?_);go_wp2_with fail)
      refine iR.out.mono ?_;rintro e w6 ⟨hc6,_,rfl,rfl,dF⟩;have bD:=zh hc6;have iU:=zh dF;have hS2:=hc6;clear hc6 dF;go_wp2_with fail;refine And.intro (by assumption:ae _ _ _) ?_
      repeat ((with_reducible refine gX ?_);(first|refine aL ?_|refine sK ?_|refine sM fun _ _=>?_|refine sL (hz:=by exact bX.of pK (by simpa using hxb)) fun _ _=>?_|refine sE fun _ _=>?_);go_wp2_with fail)
      refine And.intro (ae.alloc (by assumption:ae _ _ _) _) ?_
      repeat ((with_reducible refine gX ?_);(first|refine aL ?_|refine sK ?_|refine sM fun _ _=>?_|refine sL (hz:=by exact bX.of pK (by simpa using hxb)) fun _ _=>?_|refine sE fun _ _=>?_);go_wp2_with fail)
      go_ret
      rw [HRR.out];have aO:=(ae.refl [bp] w6).alloc (.cells #[.int .i64 1,.int .i64 (hd z ts),.int .i64 x,str [],str [],str [],aI,aI,ah] 192);refine⟨(mQ.out.then bD.out).then aO,_,rfl,⟨w6.heap.size,rfl,⟨Nat.le_trans mQ.out.size bD.out.size,by simp⟩,ag.new _ _ _⟩,iU.out.kept ((ae.refl [] w6).alloc _) (by simp) (by simp) (by simp)⟩
    | false=>
     have HI:=zh hn;have hk2 : (kv == 2)=false:=by rw [HK.out];exact hn
     have Jd:=zh (HNA.out w1 B bp bt z ts oz.out);have HRR:=zh (show one z (d + 1) ts=named z (expr z (one z d) 5) ts by rw [sU,if_neg (by rw [HI1.out];simp),if_neg (by rw [HI2.out];simp),if_neg (by rw [HI3.out];simp),if_neg (by rw [HI.out];simp)]);clear hn;cases hx : named z (expr z (one z d) 5) ts with
     | bad en p=>
      rw [hx] at HRR;rw [hx] at Jd;clear hx;go_wp2_with fail;refine Jd.out.mono ?_;intro e w6 he;have aR:=zh he;obtain⟨b,rfl⟩:=he.thrown;clear he;go_wp2_with fail;refine⟨rfl,?_⟩;rw [HRR.out];exact aR.out.eH cB.out
     | ok x r6=>
      rw [hx] at HRR;rw [hx] at Jd;clear hx;go_wp2_with fail;refine Jd.out.mono ?_;rintro e w6 ⟨hc6,v6,rfl,hv6,dF⟩;have bD:=zh hc6;have qB:=zh hv6;have iU:=zh dF;clear hc6 hv6 dF;go_wp2_with fail;go_ret
      rw [HRR.out];exact⟨cB.out.then bD.out,_,rfl,aY.later qB.out cB.out.size,iU.out⟩
theorem ahd : ∀ d deep,deep + d=11→Cf deep d:=by
 intro d
 induction d with
 | zero=>intro deep h;rw [show deep=11 by omega];exact aha
 | succ d ih=>exact fun deep h=>ahb deep d h (ih (deep + 1) (by omega))
theorem Ws (deep d:Nat) (h : deep + d=11):uH 0 deep (fun z=>expr z (one z d) 5):=V9 deep d (ahd d deep h) (fun z=>(Cn z d).mono) (by omega) 5 (Nat.le_refl _)
end Go.Proofs.YtechofppmnnomaaGreatDoor
namespace Go.Mq.Tree
open Go Go.RowKit Go.Mq
def l6 {α:Type} (w:World) (B bp bs' bt z:Nat) (r:R α) (V:World→α→Prop) (e:Ending) (w':World):Prop:=ae [bp,bs'] w w'∧match r with
 | .ok a ts=>e = .returned (.tuple #[])∧V w' a∧bP w' B bp bt z ts
 | .bad en p=>∃ b,e = .panicked [{ v:=.iface 81 (.agg #[.iface 140 (ptr b)]),recovered:=false }]∧w.heap.size≤b∧ag w' b #[.int .i64 en,.int .i64 p] 142
theorem l6.part {α:Type} {w w2:World} {B bp bs' bt z:Nat} {o:R α} {V:World→α→Prop} {e:Ending} (h:l6 w B bp bs' bt z o V e w2) :
  (∃ en q b,e = .panicked [{ v:=.iface 81 (.agg #[.iface 140 (ptr b)]),recovered:=false }]∧Hid (o = .bad en q)∧Hid (l6 w B bp bs' bt z (.bad en q:R α) V (.panicked [{ v:=.iface 81 (.agg #[.iface 140 (ptr b)]),recovered:=false }]) w2)) ∨
  ∃ a r,Hid (o = .ok a r)∧l6 w B bp bs' bt z (.ok a r) V e w2:=by
 cases o with
 | bad en q=>obtain⟨hc,b,rfl,hb⟩:=h;exact .inl ⟨en,q,b,rfl,zh rfl,zh ⟨hc,b,rfl,hb⟩⟩
 | ok a r=>exact .inr ⟨a,r,zh rfl,h⟩
theorem l6.cut {α:Type} {w w2:World} {B bp bs' bt z:Nat} {o:R α} {V:World→α→Prop} {e:Ending} (h:l6 w B bp bs' bt z o V e w2) :
  (∃ en q b,e = .panicked [{ v:=.iface 81 (.agg #[.iface 140 (ptr b)]),recovered:=false }]∧Hid (o = .bad en q)∧Hid (ae [bp,bs'] w w2∧w.heap.size≤b∧ag w2 b #[.int .i64 en,.int .i64 q] 142)) ∨
  ∃ a r,e = .returned (.tuple #[])∧Hid (o = .ok a r)∧V w2 a∧ae [bp,bs'] w w2∧bP w2 B bp bt z r:=by
 cases o with
 | bad en q=>
  obtain⟨hc,b,he,hb,hB⟩:=h;exact .inl ⟨en,q,b,he,zh rfl,zh ⟨hc,hb,hB⟩⟩
 | ok a r=>
  obtain⟨hc,he,hv,hp⟩:=h;exact .inr ⟨a,r,he,zh rfl,hv,hc,hp⟩
abbrev yx (w w':World):Nat→Prop:=fun b=>w.heap.size + 2≤b∧b < w'.heap.size
theorem Co (l:List (List UInt8)) (v:Value):jg (fun w F=>eF w F l v):=⟨fun hF h=>h.mono hF,fun hc hS h=>h.kept hc hS⟩
theorem NW (s:S) (v:Value):jg (fun w F=>fQ w F s v):=⟨fun hF h=>h.mono hF,fun hc hS h=>h.kept hc hS⟩
theorem NY:jg (fun _ _=>True):=⟨fun _ h=>h,fun _ _ h=>h⟩
theorem jg.and {Q Q':World→(Nat→Prop)→Prop} (h:jg Q) (h':jg Q'):jg (fun w F=>Q w F∧Q' w F):=⟨fun hF x=>⟨h.mono hF x.1,h'.mono hF x.2⟩,fun hc hS x=>⟨h.kept hc hS x.1,h'.kept hc hS x.2⟩⟩
structure Mk (T:TypeId) (w wk:World) (B bp bt z:Nat) (tk:List Tok) (zs cs:Array Value) (Q:World→(Nat→Prop)→Prop):Prop where
 fr:jg Q
 hbp : bp < w.heap.size
 hbt : bt < w.heap.size
 aV:ae [bp] w wk
 par:bP wk B bp bt z tk
 blk:ag wk (w.heap.size + 1) cs T
 res:ag wk w.heap.size zs T
 sz : w.heap.size + 2≤wk.heap.size
 q:Q wk (yx w wk)
section
variable {T:TypeId} {w wk w':World} {B bp bt z:Nat} {tk t':List Tok} {zs cs:Array Value} {Q Q':World→(Nat→Prop)→Prop}
theorem Mk.step (h:Mk T w wk B bp bt z tk zs cs Q) (hc:ae [bp] wk w') (hp:bP w' B bp bt z t'):Mk T w w' B bp bt z t' zs cs Q:=
 ⟨h.fr,h.hbp,h.hbt,h.aV.then hc,hp,h.blk.kept hc (by have:=h.hbp;simp;omega),h.res.kept hc (by have:=h.hbp;simp;omega),Nat.le_trans h.sz hc.size,
  h.fr.mono (fun x hx=>⟨hx.1,Nat.lt_of_lt_of_le hx.2 hc.size⟩) (h.fr.kept hc (fun x hx hn=>by have:=h.hbp;simp at hx;have:=hn.1;omega) h.q)⟩
theorem Mk.add (h:Mk T w wk B bp bt z tk zs cs Q) (hf:jg Q') (hq:Q' wk (yx w wk)):Mk T w wk B bp bt z tk zs cs (fun w F=>Q w F∧Q' w F):=
 ⟨h.fr.and hf,h.hbp,h.hbt,h.aV,h.par,h.blk,h.res,h.sz,h.q,hq⟩
theorem Mk.call (h:Mk T w wk B bp bt z tk zs cs Q) (hc:ae [bp] wk w') (hp:bP w' B bp bt z t') (hf:jg Q') (hq:Q' w' (New wk w')):Mk T w w' B bp bt z t' zs cs (fun w F=>Q w F∧Q' w F):=
 (h.step hc hp).add hf (hf.mono (fun _ hx=>⟨Nat.le_trans h.sz hx.1,hx.2⟩) hq)
theorem Mk.store (h:Mk T w wk B bp bt z tk zs cs Q) (i:Nat) (v:Value):Mk T w (wk.setCell ⟨w.heap.size + 1,i,none⟩ v) B bp bt z tk zs (cs.setIfInBounds i v) Q:=by
 have hc:ae [w.heap.size + 1] wk (wk.setCell ⟨w.heap.size + 1,i,none⟩ v):=ae.set1 _ _ _ _;have h1:=h.hbp;have h2:=h.hbt;have h3:=h.par.laid.le;have h4:=h.par.Ak;exact⟨h.fr,h1,h2,h.aV.trans hc (fun x hx=>.inr (by simp at hx;omega)),h.par.kept hc (fun x hx=>by simp at hx;omega) (by simp;omega) (by simp;omega),h.blk.set i v,h.res.kept hc (by simp),Nat.le_trans h.sz hc.size,
  h.fr.mono (fun x hx=>⟨hx.1,Nat.lt_of_lt_of_le hx.2 hc.size⟩) (h.fr.kept hc (fun x hx hn=>by simp at hx;have:=hn.1;omega) h.q)⟩
theorem Mk.fin (h:Mk T w wk B bp bt z tk zs cs Q) (hc:ae [w.heap.size] wk w'):Q w' (New w w'):=
 h.fr.mono (fun x hx=>⟨by have:=hx.1;omega,Nat.lt_of_lt_of_le hx.2 hc.size⟩) (h.fr.kept hc (fun x hx hn=>by simp at hx;have:=hn.1;omega) h.q)
end
theorem Mk.loop {T:TypeId} {w wk w':World} {B bp bt z:Nat} {tk t':List Tok} {zs cs cs':Array Value} {Q:World→(Nat→Prop)→Prop} (h:Mk T w wk B bp bt z tk zs cs Q) (hc:ae [bp,w.heap.size + 1] wk w') (hp:bP w' B bp bt z t') (hb:ag w' (w.heap.size + 1) cs' T):Mk T w w' B bp bt z t' zs cs' Q:=
 ⟨h.fr,h.hbp,h.hbt,h.aV.trans hc (fun x hx=>by simp at hx;rcases hx with rfl|rfl;exact .inl (by simp);exact .inr (by omega)),hp,hb,h.res.kept hc (by have:=h.hbp;simp;omega),Nat.le_trans h.sz hc.size,
  h.fr.mono (fun x hx=>⟨hx.1,Nat.lt_of_lt_of_le hx.2 hc.size⟩) (h.fr.kept hc (fun x hx hn=>by have:=h.hbp;simp at hx;have:=hn.1;omega) h.q)⟩
theorem Mk.bad {T:TypeId} {w wk w2:World} {B bp bt z:Nat} {tk:List Tok} {zs cs:Array Value} {Q:World→(Nat→Prop)→Prop} {β:Type} {o:R β} {V:World→β→Value→Prop} {en q b:Nat} (h:Mk T w wk B bp bt z tk zs cs Q) (hE:ae [bp,w.heap.size + 1] wk w2∧wk.heap.size≤b∧ag w2 b #[.int .i64 en,.int .i64 q] 142) (e : o = .bad en q) :
  eO w B bp bt z o V (.panicked [{ v:=.iface 81 (.agg #[.iface 140 (ptr b)]),recovered:=false }]) w2:=by
 subst e;exact⟨h.aV.trans hE.1 (fun x hx=>by simp at hx;rcases hx with rfl|rfl;exact .inl (by simp);exact .inr (by omega)),b,rfl,Nat.le_trans h.aV.size hE.2.1,hE.2.2⟩
end Go.Mq.Tree
namespace Go.Mq.Tree
open Go Go.RowKit Go.Mq
theorem s1 {a b:World} {bp bs':Nat} (h:ae [bp] a b):ae [bp,bs'] a b:=h.mono fun x hx=>.inl (by simp at hx;simp [hx])
theorem s2 {a b:World} {bp bs':Nat} (h:ae [bs'] a b):ae [bp,bs'] a b:=h.mono fun x hx=>.inl (by simp at hx;simp [hx])
theorem eO.vZ {α β:Type} {w w1 w2:World} {B bp bs' bt z en p:Nat} {V:World→α→Value→Prop} {V':World→β→Prop} {e:Ending} (h:eO w1 B bp bt z (.bad en p:R α) V e w2) (hc:ae [bp,bs'] w w1):l6 w B bp bs' bt z (.bad en p:R β) V' e w2:=by
 obtain⟨hc2,b,he,hb,hB⟩:=h;exact⟨hc.then (s1 hc2),b,he,Nat.le_trans hc.size hb,hB⟩
theorem l6.vZ {α β:Type} {w w1 w2:World} {B bp bs' bt z en p:Nat} {V:World→α→Prop} {V':World→β→Prop} {e:Ending} (h:l6 w1 B bp bs' bt z (.bad en p:R α) V e w2) (hc:ae [bp,bs'] w w1):l6 w B bp bs' bt z (.bad en p:R β) V' e w2:=by
 obtain⟨hc2,b,he,hb,hB⟩:=h;exact⟨hc.then hc2,b,he,Nat.le_trans hc.size hb,hB⟩
theorem l6.thrown {α:Type} {w w2:World} {B bp bs' bt z en p:Nat} {V:World→α→Prop} {e:Ending} (h:l6 w B bp bs' bt z (.bad en p:R α) V e w2) : ∃ b,e = .panicked [{ v:=.iface 81 (.agg #[.iface 140 (ptr b)]),recovered:=false }]:=by
 obtain⟨_,b,he,_⟩:=h;exact⟨b,he⟩
theorem Wt {z:Nat} {ex:Ps E} {ts r:List Tok} {e:E} (h : named z ex ts = .ok e r) : (∃ p m n,e = .var p m n)∨(∃ p m n i,e = .item p m n i)∨(∃ p m n l,e = .app p m n l):=by
 rw [Cj] at h;cases h1 : pQ z ts with
 | bad en q=>rw [h1] at h;cases h
 | ok q r1=>
  rw [h1] at h;simp only [rA] at h;split at h
  ·cases h2 : ex r1.tail with
   | bad en q=>rw [h2] at h;cases h
   | ok i r2=>
    simp only [h2] at h;cases h3 : must z [93] r2 with
    | bad en q=>simp only [h3] at h;cases h
    | ok u r3=>simp only [h3] at h;cases h;exact .inr (.inl ⟨_,_,_,_,rfl⟩)
  ·split at h
   ·cases h2 : jh z ex (r1.length + 1) true [] r1.tail with
    | bad en q=>simp only [h2] at h;cases h
    | ok l r2=>simp only [h2] at h;cases h;exact .inr (.inr ⟨_,_,_,_,rfl⟩)
   ·cases h;exact .inl ⟨_,_,_,rfl⟩
abbrev kC (p:Nat):Array Value:=#[.int .i64 0,.int .i64 p,str [],aI,aI,ah,ah]
def NZ (w:World) (F:Nat→Prop) (bs':Nat) (s:S):Prop:=∃ cs,ag w bs' cs.toArray 168∧dI w F s cs
end Go.Mq.Tree
namespace Go.Proofs.YtechofppmnnomaaGreatDoor
open Go Go.RowKit Go.Mq Go.Mq.Tree
set_option maxRecDepth 100000
set_option maxHeartbeats 8000000
theorem Fs : ∀ (w:World) (B bp bt z:Nat) (ts:List Tok),bP w B bp bt z ts→Calls Tryz.prog 136 #[ptr bp,.int .i64 0,.int .i64 0] w (eO w B bp bt z (iJ z ts) (EV w)):=fun w B bp bt z ts hp=>by
 have:=Ws 0 11 rfl w B bp bt z ts hp
 simpa [iJ] using this
theorem ahe : ∀ (w:World) (B bp bt z:Nat) (ts:List Tok),bP w B bp bt z ts→Calls Tryz.prog 164 #[ptr bp,.int .i64 0] w (eO w B bp bt z (named z (expr z (one z 10) 5) ts) (EV w)):=fun w B bp bt z ts hp=>by
 have:=Wh 0 (by omega) (fun z=>expr z (one z 10) 5) (Ws 1 10 rfl) (fun z=>Ce (Cn z 10) 5) w B bp bt z ts hp
 simpa using this
theorem ahf (p:Nat) (w:World) (B bp bs' bt z:Nat) (ts:List Tok) (h:bP w B bp bt z ts) (hbs:ag w bs' (kC p) 168) (hB':B≤bs') (hne : bs'≠bp) (hnt : bs'≠bt) :
  Calls Tryz.prog 137 #[ptr bp,ptr bs'] w (l6 w B bp bs' bt z (first z p ts) (fun w' s=>NZ w' (New w w') bs' s)):=by
 have HN:=zh (ahe w B bp bt z ts h);have H:=zh h;have hbp:=h.rz;have hbl:=hbs.lt;have jf:=zh (And.intro hbs (And.intro hB' (And.intro hne hnt)));clear h hbs;cases hx : named z (expr z (one z 10) 5) ts with
 | bad en q=>
  have HRR:=zh (show first z p ts = .bad en q by rw [first,hx]);rw [hx] at HN;clear hx
  go_enter Tryz.func137,Tryz.ntmps137
  go_wp2_with fail;refine HN.out.mono ?_;intro e w1 he;have aR:=zh he;obtain⟨b,rfl⟩:=he.thrown;clear he;go_wp2_with fail;refine⟨rfl,?_⟩;rw [HRR.out];exact aR.out.vZ (ae.refl _ _)
 | ok e r=>
  have HX:=zh hx;rw [hx] at HN;clear hx
  go_enter Tryz.func137,Tryz.ntmps137
  go_wp2_with fail;refine HN.out.mono ?_;rintro e w1 ⟨hc1,v1,rfl,hv1,hp1⟩;have cB:=zh hc1;have oz:=zh hp1;have hb1:=jf.out.1.kept hc1 (by simpa using hne);rcases Wt HX.out with⟨q,m,n,rfl⟩|⟨q,m,n,i,rfl⟩|⟨q,m,n,l,rfl⟩
  focus
   obtain⟨b,he,hF,hb⟩:=hv1;obtain⟨o,u,sW,mD,d6⟩ : ∃ (o:Option E) (u:Option Addr),Hid (first z p ts=(if m≠[] then .bad 3 (hd z r) else match must z [58,61] r with | .bad e q=>.bad e q | .ok _ r2=>match iJ z r2 with | .bad e q=>.bad e q | .ok v r3=>.ok (.set p n o v .nil) r3))∧Hid (oF w1 (New w w1) o (.pointer u))∧w1.cell? ⟨b,6,none⟩=some (.pointer u):=⟨none,none,zh (by rw [first,HX.out];rfl),zh rfl,hb.cell 6 _ rfl⟩
   cases he
   have d0:=hb.cell 0 _ rfl;have d3:=hb.cell 3 _ rfl;have d4:=hb.cell 4 _ rfl;clear hb
  rotate_left
  focus
   obtain⟨b,ui,he,hF,hb,hi⟩:=hv1;obtain⟨bu,rfl⟩:=hi.ptr;obtain⟨o,u,sW,mD,d6⟩ : ∃ (o:Option E) (u:Option Addr),Hid (first z p ts=(if m≠[] then .bad 3 (hd z r) else match must z [58,61] r with | .bad e q=>.bad e q | .ok _ r2=>match iJ z r2 with | .bad e q=>.bad e q | .ok v r3=>.ok (.set p n o v .nil) r3))∧Hid (oF w1 (New w w1) o (.pointer u))∧w1.cell? ⟨b,6,none⟩=some (.pointer u):=⟨some i,some ⟨bu,0,none⟩,zh (by rw [first,HX.out];rfl),zh hi,hb.cell 6 _ rfl⟩
   cases he
   have d0:=hb.cell 0 _ rfl;have d3:=hb.cell 3 _ rfl;have d4:=hb.cell 4 _ rfl;clear hb hi
  rotate_left
  ·
   have HRR:=zh (show first z p ts = .ok (.call p (.app q m n l) .nil) r by rw [first,HX.out]);have mD:=zh hv1;obtain⟨b,a,c,vs,he,hF,hb,_⟩:=hv1;cases he
   have d0:=hb.cell 0 _ rfl;have f0:=hb1.frozen 0;have f4:=hb1.frozen 4;have e0:=hb1.cell 0 _ rfl;have e4:=hb1.cell 4 _ rfl;have hb2:=(hb1.set 0 (.int .i64 6)).set 4 (ptr b);have hc2:ae [bs'] w1 ((w1.setCell ⟨bs',0,none⟩ (.int .i64 6)).setCell ⟨bs',4,none⟩ (ptr b)):=(ae.set1 _ _ _ _).then (ae.set1 _ _ _ _)
   have HB2:=zh hb2;have aD:=zh hc2;clear hc1 hp1 hb1 hb hb2 hc2;go_wp2_with fail;refine bodyPost_ret (results_none rfl _ _ _) rfl ?_;rw [HRR.out];refine⟨(s1 cB.out).then (s2 aD.out),rfl,⟨_,by simpa using HB2.out,ptr b,[],rfl,?_,rfl⟩,oz.out.kept aD.out (fun x hx=>by simp at hx;omega) (by simpa using Ne.symm hne) (by simpa using Ne.symm hnt)⟩;exact(mD.out.kept aD.out (fun x hx hn=>by simp at hx;have:=hn.1;omega)).mono (fun x hx=>⟨hx.1,Nat.lt_of_lt_of_le hx.2 aD.out.size⟩)
  all_goals
   have N7:ag w1 bs' (kC p) 168:=hb1;have hbne : b≠bs':=by have:=hF.1;omega
   cases hme : m.isEmpty with
   | false=>
    have HRR:=zh (show first z p ts = .bad 3 (hd z r) by rw [sW.out,if_pos (by intro h;rw [h] at hme;cases hme)]);have pY:=zh (lK 3 w1 B bp bt z r oz.out);clear hp1 hc1 hb1 N7;go_wp2_with fail;refine pY.out.mono ?_;intro e w6 he;have aR:=zh he;obtain⟨b9,rfl⟩:=he.thrown;clear he;go_wp2_with fail;refine⟨rfl,?_⟩;rw [HRR.out];exact aR.out.vZ (s1 cB.out)
   | true=>
    have N8:Hid (m=[]):=zh (List.isEmpty_iff.1 hme);have HB1:=zh N7;clear hp1 hc1 hb1 N7;go_wp2_with fail;refine kX [bs'] rfl (by kernel_rfl) ?_;have hS:ae [bs'] w1.drew w1.drew:=ae.refl _ _;have Wu : w1.drew.cell? ⟨b,4,none⟩=some (str n):=d4;have d6' : w1.drew.cell? ⟨b,6,none⟩=some (.pointer u):=d6;have hz:bX [bs'] w1.drew b:=bX.of Wu (by simpa using hbne);have f0 : w1.drew.frozen? ⟨bs',0,none⟩=false:=HB1.out.frozen 0;have f2 : w1.drew.frozen? ⟨bs',2,none⟩=false:=HB1.out.frozen 2;have f3 : w1.drew.frozen? ⟨bs',3,none⟩=false:=HB1.out.frozen 3;have e0 : w1.drew.cell? ⟨bs',0,none⟩=some (.int .i64 0):=HB1.out.cell 0 _ rfl;have e2 : w1.drew.cell? ⟨bs',2,none⟩=some (str []):=HB1.out.cell 2 _ rfl;have e3 : w1.drew.cell? ⟨bs',3,none⟩=some aI:=HB1.out.cell 3 _ rfl;have g2 : w1.frozen? ⟨bs',2,none⟩=false:=f2;have g3 : w1.frozen? ⟨bs',3,none⟩=false:=f3;have g0 : w1.frozen? ⟨bs',0,none⟩=false:=f0;have h2 : w1.cell? ⟨bs',2,none⟩=some (str []):=e2;have h3 : w1.cell? ⟨bs',3,none⟩=some aI:=e3
    repeat ((with_reducible refine gX ?_);(first|refine aL ?_|refine sK ?_|refine sM fun _ _=>?_|refine sL (hz:=by exact hz) fun _ _=>?_|refine sE fun _ _=>?_);go_wp2_with fail)
    refine⟨hS.setCell ⟨bs',0,none⟩ (.inl (by simp)) (.int .i64 1),?_⟩
    repeat ((with_reducible refine gX ?_);(first|refine aL ?_|refine sK ?_|refine sM fun _ _=>?_|refine sL (hz:=by exact hz) fun _ _=>?_|refine sE fun _ _=>?_);go_wp2_with fail)
    refine⟨(hS.setCell ⟨bs',0,none⟩ (.inl (by simp)) (.int .i64 1)).setCell ⟨bs',2,none⟩ (.inl (by simp)) (str n),?_⟩
    repeat ((with_reducible refine gX ?_);(first|refine aL ?_|refine sK ?_|refine sM fun _ _=>?_|refine sL (hz:=by exact hz) fun _ _=>?_|refine sE fun _ _=>?_);go_wp2_with fail)
    refine⟨((hS.setCell ⟨bs',0,none⟩ (.inl (by simp)) (.int .i64 1)).setCell ⟨bs',2,none⟩ (.inl (by simp)) (str n)).setCell ⟨bs',3,none⟩ (.inl (by simp)) (.pointer u),?_⟩
    repeat ((with_reducible refine gX ?_);(first|refine aL ?_|refine sK ?_|refine sM fun _ _=>?_|refine sL (hz:=by exact hz) fun _ _=>?_|refine sE fun _ _=>?_);go_wp2_with fail)
    have hw3:ae [bs'] w1 (((w1.setCell ⟨bs',0,none⟩ (.int .i64 1)).setCell ⟨bs',2,none⟩ (str n)).setCell ⟨bs',3,none⟩ (.pointer u)).drew:=(((ae.set1 w1 bs' 0 (.int .i64 1)).setCell ⟨bs',2,none⟩ (.inl (by simp)) (str n)).setCell ⟨bs',3,none⟩ (.inl (by simp)) (.pointer u)).drew;have hb3:=(((HB1.out.set 0 (.int .i64 1)).set 2 (str n)).set 3 (.pointer u)).kept ((ae.refl [] _).drew) (by simp);simp only [Array.setIfInBounds,List.size_toArray,List.length_cons,List.length_nil] at hb3;clear hS Wu d6' hz f0 f2 f3 e0 e2 e3 g0 g2 g3 h2 h3
    generalize (((w1.setCell ⟨bs',0,none⟩ (.int .i64 1)).setCell ⟨bs',2,none⟩ (str n)).setCell ⟨bs',3,none⟩ (.pointer u)).drew=w3 at *
    have HW3:=zh hw3;have HB3:=zh hb3;have hp3:=oz.out.kept hw3 (fun x hx=>by simp at hx;omega) (by simpa using Ne.symm hne) (by simpa using Ne.symm hnt);have iI:=zh (gP [58,61] w3 B bp bt z r hp3);clear hw3 hb3 hp3;go_wp2_with fail;cases h8 : see [58,61] r with
    | false=>
     have HRR:=zh (show first z p ts = .bad 3 (hd z r) by rw [sW.out,if_neg (by simp [N8.out])];simp [must,h8]);rw [must,h8,if_neg (by simp)] at iI;clear h8;refine iI.out.mono ?_;intro e w8 he;have aR:=zh he;obtain⟨b9,rfl⟩:=he.thrown;clear he;go_wp2_with fail;refine⟨rfl,?_⟩;rw [HRR.out];exact aR.out.vZ ((s1 cB.out).then (s2 HW3.out))
    | true=>
     rw [must,h8,if_pos rfl] at iI;refine iI.out.mono ?_;rintro e w4 ⟨hc4,_,rfl,rfl,gy⟩;have cu:=zh hc4;have oq:=zh gy;have ug:=zh (Fs w4 B bp bt z r.tail gy);clear hc4 gy;cases hx : iJ z r.tail with
     | bad en q=>
      have HRR:=zh (show first z p ts = .bad en q by rw [sW.out,if_neg (by simp [N8.out])];simp [must,h8,hx]);rw [hx] at ug;clear h8 hx;go_wp2_with fail;refine ug.out.mono ?_;intro e w6 he;have aR:=zh he;obtain⟨b9,rfl⟩:=he.thrown;clear he;go_wp2_with fail;refine⟨rfl,?_⟩;rw [HRR.out];exact aR.out.vZ (((s1 cB.out).then (s2 HW3.out)).then (s1 cu.out))
     | ok v r6=>
      have HRR:=zh (show first z p ts = .ok (.set p n o v .nil) r6 by rw [sW.out,if_neg (by simp [N8.out])];simp [must,h8,hx]);rw [hx] at ug;clear h8 hx;go_wp2_with fail;refine ug.out.mono ?_;rintro e w6 ⟨hc6,v6,rfl,hv6,dF⟩;obtain⟨b6,rfl⟩:=hv6.ptr;have bD:=zh hc6;have qB:=zh hv6;have iU:=zh dF;have hb6:=(HB3.out.kept cu.out (by simpa using hne)).kept hc6 (by simpa using hne);have f4:=hb6.frozen 4;have e4:=hb6.cell 4 _ rfl;have dR:=hb6.set 4 (ptr b6);have dQ:ae [bs'] w6 (w6.setCell ⟨bs',4,none⟩ (ptr b6)):=ae.set1 _ _ _ _;have rC:=zh dR;have gH:=zh dQ;clear hc6 hv6 dF hb6 dR dQ;go_wp2_with fail;refine bodyPost_end (results_none rfl _ _ _) rfl ?_;rw [HRR.out];have hsz : w.heap.size≤w4.heap.size:=Nat.le_trans cB.out.size (Nat.le_trans HW3.out.size cu.out.size);refine⟨((((s1 cB.out).then (s2 HW3.out)).then (s1 cu.out)).then (s1 bD.out)).then (s2 gH.out),rfl,⟨_,by simpa using rC.out,(.pointer u),ptr b6,[],rfl,?_,?_,rfl⟩,iU.out.kept gH.out (fun x hx=>by simp at hx;omega) (by simpa using Ne.symm hne) (by simpa using Ne.symm hnt)⟩
      ·exact((((mD.out.kept HW3.out (fun x hx hn=>by simp at hx;have:=hn.1;omega)).kept cu.out (fun x hx hn=>by simp at hx;have:=hn.1;omega)).kept bD.out (fun x hx hn=>by simp at hx;have:=hn.1;omega)).kept gH.out (fun x hx hn=>by simp at hx;have:=hn.1;omega)).mono (fun x hx=>⟨hx.1,Nat.lt_of_lt_of_le hx.2 (Nat.le_trans HW3.out.size (Nat.le_trans cu.out.size (Nat.le_trans bD.out.size gH.out.size)))⟩)
      ·exact((aY.later qB.out hsz).kept gH.out (fun x hx hn=>by simp at hx;have:=hn.1;omega)).mono (fun x hx=>⟨hx.1,Nat.lt_of_lt_of_le hx.2 gH.out.size⟩)
end Go.Proofs.YtechofppmnnomaaGreatDoor
