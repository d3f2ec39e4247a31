/- Some texts in one. -/
import Derived.Defers
import Derived.Recover
import Derived.Test.YtechofppmnnomaaGreatDoorB1
import Derived.Test.YtechofppmnnomaaGreatDoorB8
import Derived.Test.YtechofppmnnomaaGreatDoorB9
namespace Go.Mq.Tree
open Go Go.RowKit Go.Mq
theorem WO (m l:List UInt8):Lib.hasPrefix l m=m.isPrefixOf l:=rfl
theorem WQ {c:UInt8} {t:List UInt8} (h : letter c=true) : dU (c :: t)=(.word,gq (fun c=>letter c || digit c) (c :: t)):=by rw [dU,if_pos h]
theorem WR {c:UInt8} {t:List UInt8} (h : letter c=false) (h2 : digit c=true) : dU (c :: t)=(.number,gq digit (c :: t)):=by rw [dU,if_neg (by simp [h]),if_pos h2]
theorem WS {c:UInt8} {t:List UInt8} (h : letter c=false) (h2 : digit c=false) {m:List UInt8} (hm : marks.find? (fun m=>m.isPrefixOf (c :: t))=some m) : dU (c :: t)=(.mark,m.length):=by
 rw [dU,if_neg (by simp [h]),if_neg (by simp [h2]),hm];rfl
theorem WT {c:UInt8} {t:List UInt8} (h : letter c=false) (h2 : digit c=false) (hm : marks.find? (fun m=>m.isPrefixOf (c :: t))=none) : dU (c :: t)=(.mark,0):=by
 rw [dU,if_neg (by simp [h]),if_neg (by simp [h2]),hm];rfl
end Go.Mq.Tree
namespace Go.Proofs.YtechofppmnnomaaGreatDoor
open Go Go.RowKit Go.Mq Go.Mq.Tree
set_option maxRecDepth 100000
set_option maxHeartbeats 4000000
theorem WU : ∀ (cs:Array Value) (w:World),(callFunc 106 cs).run Tryz.prog w = .ok (.enter 106 cs) w:=fun cs w=>by kernel_rfl
theorem WV : ∀ (cs:Array Value) (w:World),(callFunc 107 cs).run Tryz.prog w = .ok (.enter 107 cs) w:=fun cs w=>by kernel_rfl
theorem WW (c:UInt8) (t:List UInt8) (hl : (c :: t).length≤1099511627776) (w:World) (B:Nat) (hL:Laid w B) :
  Calls Tryz.prog 68 #[str (c :: t)] w (fun e w'=>e = .returned (.tuple #[.int .i64 (dU (c :: t)).1.num,.int .i64 (dU (c :: t)).2])∧w'=w):=by
 have jG:=zh (Ol c w);have Cr:=zh (Jg c w);have HRW:=zh (Om (fun c=>letter c || digit c) 106 WU w (fun c=>WX c w) (c :: t) hl);have Jh:=zh (Om digit 107 WV w (fun c=>Jg c w) (c :: t) hl);obtain⟨s,hs⟩ : ∃ s,s=bs (c :: t):=⟨_,rfl⟩
 have hidx:=Jd (P:=Tryz.prog) Tryz.underlying9 (k:=0) (c:=c) (show s[0]?=some c by rw [hs,Jc];rfl);have hidx : ∀ w,(Instr.index 9 (.string s) (.int .i64 0)).run Tryz.prog w = .ok (.int .u8 c.toNat) w:=hidx
 have hsz : s.size=t.length + 1:=by rw [hs];rfl
 have HS:=zh hs
 show Calls Tryz.prog 68 #[.string (bs (c :: t))] w _
 have HRW:Hid (Calls Tryz.prog 105 #[.string s,.func (.func 106) #[] #[]] w (fun e w'=>e = .returned (.int .i64 (gq (fun c=>letter c || digit c) (c :: t)))∧w'=w)):=by rw [hs];exact HRW
 have Jh:Hid (Calls Tryz.prog 105 #[.string s,.func (.func 107) #[] #[]] w (fun e w'=>e = .returned (.int .i64 (gq digit (c :: t)))∧w'=w)):=by rw [hs];exact Jh
 rw [← hs];clear hs;obtain⟨n,hn⟩ : ∃ n:Nat,n=c.toNat:=⟨_,rfl⟩
 rw [← hn] at hidx jG Cr;clear hn;cases h1 : letter c with
 | true=>
  have HRR:=zh (WQ (t:=t) h1);rw [h1] at jG;clear h1
  go_enter Tryz.func68,Tryz.ntmps68
  go_wp2_with fail;refine jG.out.mono ?_;rintro _ w2 ⟨rfl,hw⟩;have hw:=hw.symm;subst hw;go_wp2_with fail;refine HRW.out.mono ?_;rintro _ w2 ⟨rfl,hw⟩;have hw:=hw.symm;subst hw;go_wp2_with fail;go_ret2
  rw [HRR.out];exact⟨rfl,rfl⟩
 | false=>
  rw [h1] at jG;cases h2 : digit c with
  | true=>
   have HRR:=zh (WR (t:=t) h1 h2);rw [h2] at Cr;clear h1 h2
   go_enter Tryz.func68,Tryz.ntmps68
   go_wp2_with fail;refine jG.out.mono ?_;rintro _ w2 ⟨rfl,hw⟩;have hw:=hw.symm;subst hw;go_wp2_with fail;refine Cr.out.mono ?_;rintro _ w2 ⟨rfl,hw⟩;have hw:=hw.symm;subst hw;go_wp2_with fail;refine Jh.out.mono ?_;rintro _ w2 ⟨rfl,hw⟩;have hw:=hw.symm;subst hw;go_wp2_with fail;go_ret2
   rw [HRR.out];exact⟨rfl,rfl⟩
  | false=>
   have HM:Hid (∀ m,marks.find? (fun m=>m.isPrefixOf (c :: t))=some m→dU (c :: t)=(.mark,m.length)):=zh (fun m hm=>WS h1 h2 hm);have HN:Hid (marks.find? (fun m=>m.isPrefixOf (c :: t))=none→dU (c :: t)=(.mark,0)):=zh (fun hm=>WT h1 h2 hm);rw [h2] at Cr;clear h1 h2;have d0:=hL.marks 0 _ rfl;have d1:=hL.marks 1 _ rfl;have d2:=hL.marks 2 _ rfl;have d3:=hL.marks 3 _ rfl;have d4:=hL.marks 4 _ rfl;have d5:=hL.marks 5 _ rfl;have d6:=hL.marks 6 _ rfl;have d7:=hL.marks 7 _ rfl;have d8:=hL.marks 8 _ rfl;have d9:=hL.marks 9 _ rfl;have d10:=hL.marks 10 _ rfl;have d11:=hL.marks 11 _ rfl;have d12:=hL.marks 12 _ rfl;have d13:=hL.marks 13 _ rfl;have d14:=hL.marks 14 _ rfl;have d15:=hL.marks 15 _ rfl;have d16:=hL.marks 16 _ rfl;have d17:=hL.marks 17 _ rfl;have Ji : marks.length=18:=rfl
   go_enter Tryz.func68,Tryz.ntmps68
   go_wp2_with fail;refine jG.out.mono ?_;rintro _ w2 ⟨rfl,hw⟩;have hw:=hw.symm;subst hw;go_wp2_with fail;refine Cr.out.mono ?_;rintro _ w2 ⟨rfl,hw⟩;have hw:=hw.symm;subst hw;go_wp2_with fail;clear d0 d1 d2 d3 d4 d5 d6 d7 d8 d9 d10 d11 d12 d13 d14 d15 d16 d17
   go_loopw [5,19] (fun _ i wr=>∃ k:Nat,k≤18∧i = .int .i64 k∧wr=w∧marks.find? (fun m=>m.isPrefixOf (c :: t))=(marks.drop k).find? (fun m=>m.isPrefixOf (c :: t))) (fun _ i _=>20 - (intOf i).toNat)
   case atStart=>exact⟨0,Nat.zero_le _,rfl,rfl,rfl⟩
   case round=>
    obtain⟨k,hk,rfl,rfl,hr⟩:=hrel;have HR:=zh hr;clear hr;by_cases hlt : k < 18
    ·have rF:=WY k hlt
     have HX:=zh (Any.strings_HasPrefix Tryz.WZ s (bs (marks.getD k [])) wr);have hm : marks[k]?=some (marks.getD k []):=by rw [List.getD_eq_getElem?_getD,List.getElem?_eq_getElem (by omega)];rfl
     have hdr : marks.drop k=marks.getD k [] :: marks.drop (k + 1):=by
      rw [List.drop_eq_getElem_cons (by omega)]
      congr 1
      rw [List.getElem?_eq_getElem (by omega)] at hm;exact Option.some.inj hm
     have HDR:=zh hdr;have W9 : (marks.getD k []).length≤2:=by
      have : ∀ m∈marks,m.length≤2:=by decide
      exact this _ (List.mem_of_getElem? hm)
     obtain⟨m,hmm⟩ : ∃ m,m=marks.getD k []:=⟨_,rfl⟩
     rw [← hmm] at rF HX HDR W9;have HX:Hid (Calls Tryz.prog 108 #[.string s,str m] wr (fun e w'=>e = .returned (.bool (m.isPrefixOf (c :: t)))∧w'=wr)):=zh (by
      have:=HX.out;rw [HS.out,WO] at this;rw [HS.out];exact this)
     clear hm hdr hmm;cases hp : m.isPrefixOf (c :: t) with
     | true=>
      have HRR:=zh (HM.out m (by rw [HR.out,HDR.out,List.find?_cons,hp]));rw [hp] at HX;clear hp;go_wp2_with fail;refine HX.out.mono ?_;rintro _ w2 ⟨rfl,hw⟩;have hw:=hw.symm;subst hw;go_wp2_with fail;go_ret2
      rw [HRR.out];exact⟨rfl,rfl⟩
     | false=>
      have HRR:=zh (show marks.find? (fun m=>m.isPrefixOf (c :: t))=(marks.drop (k + 1)).find? (fun m=>m.isPrefixOf (c :: t)) by rw [HR.out,HDR.out,List.find?_cons,hp]);rw [hp] at HX;clear hp;go_wp2_with fail;refine HX.out.mono ?_;rintro _ w2 ⟨rfl,hw⟩;have hw:=hw.symm;subst hw;go_wp2_with fail;exact⟨⟨k + 1,by omega,by go_num,by first|rfl|trivial,HRR.out⟩,by simp [intOf];omega⟩
    ·have hge : k=18:=by omega
     have HRR:=zh (HN.out (by rw [HR.out,hge];rfl));go_wp2_with fail;go_ret2
     rw [HRR.out];exact⟨rfl,rfl⟩
end Go.Proofs.YtechofppmnnomaaGreatDoor
namespace Go.Mq.Tree
open Go Go.RowKit Go.Mq
theorem Oo (f:UInt8→Bool) : ∀ l:List UInt8,gq f l≤l.length:=by
 intro l
 induction l with
 | nil=>exact Nat.le_refl _
 | cons c t ih=>rw [gq];split <;> simp <;> omega
theorem Xa (l:List UInt8) : (dU l).2≤l.length:=by
 cases l with
 | nil=>exact Nat.le_refl _
 | cons c t=>
  rw [dU];split
  ·exact Oo _ _
  ·split
   ·exact Oo _ _
   ·cases h : marks.find? (fun m=>m.isPrefixOf (c :: t)) with
    | none=>simp
    | some m=>
     have:=List.find?_some h;have:=(List.isPrefixOf_iff_prefix.1 this).length_le
     simpa using this
theorem Xb (c:UInt8) : gap c=(((c.toNat:Int) == 32) || ((c.toNat:Int) == 10)):=by
 have h1 : (c == 32)=((c.toNat:Int) == 32):=by
  by_cases h : c=32
  ·subst h;rfl
  ·have : c.toNat≠32:=fun h2=>h (UInt8.toNat_inj.1 (by rw [h2];rfl))
   rw [beq_eq_false_iff_ne.2 h]
   symm
   simp;omega
 have h2 : (c == 10)=((c.toNat:Int) == 10):=by
  by_cases h : c=10
  ·subst h;rfl
  ·have : c.toNat≠10:=fun h2=>h (UInt8.toNat_inj.1 (by rw [h2];rfl))
   rw [beq_eq_false_iff_ne.2 h]
   symm
   simp;omega
 rw [gap,h1,h2]
def vZ.ahead (acc:List Tok):vZ→vZ
 | .ok ts=>.ok (acc ++ ts)
 | .bad e p=>.bad e p
theorem Xc (f i k:Nat) : jQ f i k [] = .ok []:=by cases f <;> rfl
theorem Xd {f i k:Nat} {c:UInt8} {t:List UInt8} (h : gap c=true) : jQ (f + 1) i k (c :: t)=jQ f (i + 1) k t:=by simp only [jQ,h,if_true]
theorem Xe {f i k:Nat} {c:UInt8} {t:List UInt8} (h : gap c=false) (h2 : (dU (c :: t)).2=0) : jQ (f + 1) i k (c :: t) = .bad 3 i:=by simp [jQ,h,h2]
theorem Xf {f i:Nat} {c:UInt8} {t:List UInt8} (h : gap c=false) (h2 : (dU (c :: t)).2≠0) : jQ (f + 1) i 600 (c :: t) = .bad 4 i:=by simp [jQ,h,h2]
theorem Xg {f i k:Nat} {c:UInt8} {t:List UInt8} (h : gap c=false) (h2 : (dU (c :: t)).2≠0) (h3 : k≠600) (acc:List Tok) :
  (jQ (f + 1) i k (c :: t)).ahead acc=(jQ f (i + (dU (c :: t)).2) (k + 1) ((c :: t).drop (dU (c :: t)).2)).ahead (acc ++ [⟨(dU (c :: t)).1,(c :: t).take (dU (c :: t)).2,i⟩]):=by
 simp only [jQ,h,h2,h3,if_false,Bool.false_eq_true];cases jQ f (i + (dU (c :: t)).2) (k + 1) ((c :: t).drop (dU (c :: t)).2) with
 | ok ts=>simp [vZ.ahead]
 | bad e p=>rfl
def Xh (w:World) (z:Nat) (r:vZ) (e:Ending) (w':World):Prop:=ae [] w w'∧match r with
 | .ok ts=>∃ a c,e = .returned (.tuple #[.slice a (ts.length + 1) c,.nilIface])∧ts.length + 1≤c∧Row w' (New w w') a (uG z ts)∧ts.length≤600 ∧ ∀ t∈ts,t.text.length≤1099511627776
 | .bad en p=>∃ b,e = .returned (.tuple #[ah,.iface 140 (ptr b)])∧w.heap.size≤b∧ag w' b #[.int .i64 en,.int .i64 p] 142
theorem Jj (z:Nat) : ∀ ts:List Tok,uG z ts=ts.flatMap Tok.cells ++ [.int .i64 4,str [],.int .i64 z]:=by
 intro ts
 induction ts with
 | nil=>rfl
 | cons t r ih=>rw [uG,ih,List.flatMap_cons,List.append_assoc]
end Go.Mq.Tree
namespace Go.Proofs.YtechofppmnnomaaGreatDoor
open Go Go.RowKit Go.Mq Go.Mq.Tree
set_option maxRecDepth 100000
set_option maxHeartbeats 8000000
theorem Oq : (Tryz.prog.info? 91).map (fun i=>(i.zero,i.size,i.bytes))=some (some (.agg #[.int .i64 0,.string ⟨#[]⟩,.int .i64 0]),3,32):=by kernel_rfl
theorem Xi (l:List UInt8) (hl : l.length≤1099511627776) (w:World) (B:Nat) (hL:Laid w B):Calls Tryz.prog 34 #[str l] w (Xh w l.length (lex l)):=by
 obtain⟨s,hs⟩ : ∃ s,s=bs l:=⟨_,rfl⟩
 have hsz : s.size=l.length:=by rw [hs];rfl
 have HS:=zh hs;have HL:=zh hL
 show Calls Tryz.prog 34 #[.string (bs l)] w _
 rw [← hs];clear hs hL
 go_enter Tryz.func34,Tryz.ntmps34
 go_wp2_with fail
 go_loopw [4,5,6,7] (fun lv iv _ _ wr=>∃ (f i:Nat) (acc:List Tok),iv = .int .i64 i∧i≤l.length∧lex l=(jQ f i acc.length (l.drop i)).ahead acc∧l.length - i≤f∧acc.length≤600∧(∀ t∈acc,t.text.length≤1099511627776) ∧
   wr.ownsRow 0 91 3 lv acc.length (acc.flatMap Tok.cells)∧From w.heap.size lv∧ae [] w wr) (fun _ iv _ _ _=>l.length - (intOf iv).toNat)
 case atStart=>exact⟨l.length,0,[],rfl,Nat.zero_le _,by rw [List.drop_zero,lex];cases jQ l.length 0 0 l <;> rfl,Nat.sub_le _ _,Nat.zero_le _,fun _ h=>(by cases h),World.ownsRow_nil _ _ _ _,From.nil _,ae.refl _ _⟩
 case round=>
  obtain⟨f,i,acc,rfl,hi,hr,hf,ha,hsh,ho,hF,hC⟩:=hrel;have HR:=zh hr;have sU:=zh hsh;have HO:=zh ho;have HF:=zh hF;have HC:=zh hC;obtain⟨sa,sc,hsl⟩:=gu ho;have hsw:=hC.size;clear hr hsh ho hF hC;subst hsl;by_cases hlt : i < l.length
  ·have hdec : decide ((i:Int) < (s.size:Int))=true:=by simp;omega
   obtain⟨c,hcc⟩ : ∃ c,l[i]?=some c:=⟨l[i],List.getElem?_eq_getElem hlt⟩
   have hdrop : l.drop i=c :: l.drop (i + 1):=by
    rw [List.drop_eq_getElem_cons hlt]
    congr 1
    rw [List.getElem?_eq_getElem hlt] at hcc;exact Option.some.inj hcc
   obtain⟨f,rfl⟩ : ∃ f',f=f' + 1:=⟨f - 1,by omega⟩
   have hidx:=Jd (P:=Tryz.prog) Tryz.underlying9 (show s[i]?=some c by rw [HS.out,Jc];exact hcc);have HD:=zh hdrop;have gZ:=zh (Xb c);obtain⟨n0,hn0⟩ : ∃ n:Nat,n=c.toNat:=⟨_,rfl⟩
   rw [← hn0] at hidx gZ;clear hn0 hcc hdrop;cases hb : gap c with
   | true=>
    have HRR:=zh (show lex l=(jQ f (i + 1) acc.length (l.drop (i + 1))).ahead acc by rw [HR.out,HD.out,Xd hb]);rw [hb] at gZ;clear hb;cases h1 : ((n0:Int) == 32) with
    | true=>
     clear gZ;go_wp2_with fail;exact⟨⟨f,i + 1,acc,by go_num,by omega,HRR.out,by omega,ha,sU.out,HO.out,HF.out,HC.out⟩,by simp [intOf];omega⟩
    | false=>
     have h2 : ((n0:Int) == 10)=true:=by have:=gZ.out;rw [h1] at this;simpa using this.symm
     clear gZ;go_wp2_with fail;exact⟨⟨f,i + 1,acc,by go_num,by omega,HRR.out,by omega,ha,sU.out,HO.out,HF.out,HC.out⟩,by simp [intOf];omega⟩
   | false=>
    have hbe:=gZ.out;rw [hb] at hbe;obtain⟨h1,h2⟩:=Bool.or_eq_false_iff.1 hbe.symm;clear hbe;clear gZ;have hE1 : s.extract i l.length=bs (c :: l.drop (i + 1)):=by rw [HS.out,FH,← HD.out];congr 2;exact List.take_of_length_le (by simp)
    have hlen : (c :: l.drop (i + 1)).length=l.length - i:=by rw [← HD.out];simp
    have eZ:=zh (WW c (l.drop (i + 1)) (by rw [hlen];omega) wr B (HL.out.kept HC.out (by simp)));have dW:Hid (dU (c :: l.drop (i + 1))=dU (c :: l.drop (i + 1))):=zh rfl;have hnl:=Xa (c :: l.drop (i + 1));rw [hlen] at hnl;obtain⟨kd,hkd⟩ : ∃ kd:Nat,kd=(dU (c :: l.drop (i + 1))).1.num:=⟨_,rfl⟩
    obtain⟨n,hn⟩ : ∃ n,n=(dU (c :: l.drop (i + 1))).2:=⟨_,rfl⟩
    have Xj:=zh hkd;have HN:=zh hn;rw [← hkd,← hn] at eZ;rw [← hn] at hnl;have eZ:Hid (Calls Tryz.prog 68 #[.string (s.extract i l.length)] wr (fun e w'=>e = .returned (.tuple #[.int .i64 kd,.int .i64 n])∧w'=wr)):=zh (by rw [hE1];exact eZ.out);have HB:=zh hb;have Xk:Hid (n=0→lex l = .bad 3 i):=zh (fun h0=>by rw [HR.out,HD.out,Xe hb (by rw [← hn,h0])];rfl);have lW:Hid (n≠0→acc.length=600→lex l = .bad 4 i):=zh (fun h0 h6=>by rw [HR.out,HD.out,h6,Xf hb (by rw [← hn];exact h0)];rfl);have FK:Hid (∀ tx,s.extract i (i + n)=bs tx→n≠0→acc.length≠600→lex l=(jQ f (i + n) (acc.length + 1) (l.drop (i + n))).ahead (acc ++ [⟨(dU (c :: l.drop (i + 1))).1,tx,i⟩])):=zh (fun tx htx h0 h6=>by
     rw [HR.out,HD.out,Xg hb (by rw [← hn];exact h0) h6,← hn,← HD.out,List.drop_drop];have Xl : tx=(l.drop i).take n:=by
      rw [HS.out,FH,Nat.add_sub_cancel_left] at htx;have h9:=ByteArray.mk.inj htx;exact(by simpa using congrArg Array.toList h9.symm)
     rw [Xl])
    clear hkd hn hb hE1 dW;by_cases h0 : n=0
    ·have hz : ((n:Int) == 0)=true:=by simp [h0]
     have HRR:=zh (Xk.out h0);clear h0;go_wp2_with fail;refine eZ.out.mono ?_;rintro _ w2 ⟨rfl,hw⟩;have hw:=hw.symm;subst hw;go_wp2_with fail;go_ret2
     rw [HRR.out];exact⟨HC.out.alloc _,_,rfl,hsw,ag.new _ _ _⟩
    ·have hz : ((n:Int) == 0)=false:=by simp [h0]
     by_cases h6 : acc.length=600
     ·have h6' : ((acc.length:Int) == 600)=true:=by simp [h6]
      have HRR:=zh (lW.out h0 h6);clear h0 h6;go_wp2_with fail;refine eZ.out.mono ?_;rintro _ w2 ⟨rfl,hw⟩;have hw:=hw.symm;subst hw;go_wp2_with fail;go_ret2
      rw [HRR.out];exact⟨HC.out.alloc _,_,rfl,hsw,ag.new _ _ _⟩
     ·have h6' : ((acc.length:Int) == 600)=false:=by simp;omega
      have Xm:=zh (FK.out ((l.drop i).take n) (by rw [HS.out,FH,Nat.add_sub_cancel_left]) h0 h6);have nI:=zh (show s.extract i (i + n)=bs ((l.drop i).take n) by rw [HS.out,FH,Nat.add_sub_cancel_left]);have htl : ((l.drop i).take n).length≤1099511627776:=by simp;omega
      have uH:=zh (cK HO.out ((ae.refl [] wr).alloc (.cells #[.int .i64 kd,.string (s.extract i (i + n)),.int .i64 i] 91)) (by simp));go_wp2_with fail;refine eZ.out.mono ?_;rintro _ w2 ⟨rfl,hw⟩;have hw:=hw.symm;subst hw;go_wp2_with (at_builtin;go_must (refine pO rfl _ _ 83 rfl 91 _ 3 32 Oq Tryz.underlying83 rfl (by decide) _ _ _ rfl uH.out ⟨wr.heap.size,0,none⟩ 1 1 [.int .i64 kd,.string (s.extract i (i + n)),.int .i64 i] rfl rfl (uI _ _ _) (by simp [Value.oneCell']) ?_ ?_ ?_))
      ·omega
      ·unfold maxLen;omega
      ·intro v' w' hown' hch' bX
       have iQ:=zh hown';have Jk:=zh (HF.out.moved bX (by simp;omega));have Jl:=zh ((HC.out.alloc (.cells #[.int .i64 kd,.string (s.extract i (i + n)),.int .i64 i] 91)).trans hch' (fun x hx=>.inr (HF.out x hx)));clear hown' hch' bX;go_wp2_with fail;refine⟨⟨f,i + n,acc ++ [⟨(dU (c :: l.drop (i + 1))).1,(l.drop i).take n,i⟩],by go_num,by omega,by simpa using Xm.out,by omega,by simp;omega,?_,?_,Jk.out,Jl.out⟩,by simp [intOf];omega⟩
       ·intro t ht
        rcases List.mem_append.1 ht with h|h
        ·exact sU.out t h
        ·simp at h;rw [h];exact htl
       ·have:=iQ.out
        rw [nI.out,Xj.out] at this
        simpa [Tok.cells] using this
  ·have hdec : decide ((i:Int) < (s.size:Int))=false:=by simp;omega
   have HRR:=zh (show lex l = .ok acc by rw [HR.out,List.drop_eq_nil_of_le (by omega),Xc];simp [vZ.ahead]);have uH:=zh (cK HO.out ((ae.refl [] wr).alloc (.cells #[.int .i64 4,str [],.int .i64 l.length] 91)) (by simp));go_wp2_with (at_builtin;go_must (refine pO rfl _ _ 83 rfl 91 _ 3 32 Oq Tryz.underlying83 rfl (by decide) _ _ _ rfl uH.out ⟨wr.heap.size,0,none⟩ 1 1 [.int .i64 4,str [],.int .i64 l.length] rfl rfl (uI _ _ _) (by simp [Value.oneCell']) ?_ ?_ ?_))
   ·omega
   ·unfold maxLen;omega
   ·intro v' w' hown' hch' bX
    have iQ:=zh hown';have hF':=HF.out.moved bX (by simp;omega);have Jk:=zh hF';have Jl:=zh ((HC.out.alloc (.cells #[.int .i64 4,str [],.int .i64 l.length] 91)).trans hch' (fun x hx=>.inr (HF.out x hx)));clear hown' hch' bX hF';go_wp2_with fail;go_ret2
    rw [HRR.out];obtain⟨a,k,rfl,hk,hrow⟩:=Row.jF iQ.out (Am iQ.out Jk.out);refine⟨Jl.out,a,k,rfl,hk,?_,ha,sU.out⟩;rw [Jj];exact hrow
end Go.Proofs.YtechofppmnnomaaGreatDoor
namespace Go.Proofs.YtechofppmnnomaaGreatDoor
open Go Go.RowKit Go.Mq Go.Mq.Tree
set_option maxRecDepth 100000
set_option maxHeartbeats 8000000
theorem Xn (bm be:Nat) (w:World):CallsD Tryz.prog 33 #[ptr bm,ptr be] .returning w fun e u' w'=>
   e = .returned (.tuple #[])∧u' = .returning∧w'=w:=by
 refine callsD_of_wpS Tryz.func33 rfl fun c₀ cs hu=>?_
 rw [show (#[ptr bm,ptr be] ++ Array.replicate (Tryz.f33.ntmps - (#[ptr bm,ptr be] : Array Value).size) undef:Array Value) = #[ptr bm,ptr be,undef,undef,undef,undef,undef,undef,undef,undef,undef,undef,undef,undef,undef,undef,undef,undef,undef] from rfl]
 apply wpS_seq
 apply wpS_region
 simp [wpOpsS,go_sem,recoverD,hu,Exit.thenS]
 refine wpS_of_wp ?_;go_wp2_with fail;exact⟨rfl,.returning,by cases c₀;simp_all,.tuple #[],results_none rfl _ _ _,rfl,rfl,rfl⟩
theorem Xo (bm be b:Nat) (c0 c1 c2 c3 c4 e0:Value) (w:World) (hm:ag w bm #[c0,c1,c2,c3,c4] 32) (he:ag w be #[e0] 34) (hne : bm≠be) :
  CallsD Tryz.prog 33 #[ptr bm,ptr be] (.panicking [{ v:=.iface 81 (.agg #[.iface 140 (ptr b)]),recovered:=false }]) w fun e u' w'=>
   e = .returned (.tuple #[])∧u' = .panicking [{ v:=.iface 81 (.agg #[.iface 140 (ptr b)]),recovered:=true }]∧ae [bm,be] w w' ∧
   ag w' bm #[str [],ah,ah,ah,ah] 32∧ag w' be #[.iface 140 (ptr b)] 34:=by
 have yA : ∀ w,(Instr.typeAssert (.iface 81 (.agg #[.iface 140 (ptr b)])) 20 81 true).run Tryz.prog w = .ok (.tuple #[.agg #[.iface 140 (ptr b)],.bool true]) w:=fun _=>rfl
 refine callsD_of_wpS Tryz.func33 rfl fun c₀ cs hu=>?_
 rw [show (#[ptr bm,ptr be] ++ Array.replicate (Tryz.f33.ntmps - (#[ptr bm,ptr be] : Array Value).size) undef:Array Value) = #[ptr bm,ptr be,undef,undef,undef,undef,undef,undef,undef,undef,undef,undef,undef,undef,undef,undef,undef,undef,undef] from rfl]
 apply wpS_seq
 apply wpS_region
 simp [wpOpsS,go_sem,recoverD,hu,Exit.thenS]
 refine wpS_of_wp ?_;go_wp2_with fail;have hlm:=hm.lt;have hle:=he.lt;have hm':=hm.kept ((ae.refl [] w).alloc (.cells #[.iface 140 (ptr b)] 81)) (by simp);have he':=he.kept ((ae.refl [] w).alloc (.cells #[.iface 140 (ptr b)] 81)) (by simp);have hx':=ag.new w #[.iface 140 (ptr b)] 81;have hc':ae [bm,be] w (w.alloc (.cells #[.iface 140 (ptr b)] 81)):=(ae.refl _ w).alloc _;have hnx : w.heap.size≠bm:=by omega
 have hny : w.heap.size≠be:=by omega
 generalize w.alloc (.cells #[.iface 140 (ptr b)] 81)=w1 at *
 have f0:=hm'.frozen 0;have f1:=hm'.frozen 1;have f2:=hm'.frozen 2;have f3:=hm'.frozen 3;have f4:=hm'.frozen 4;have d0:=hm'.cell 0 _ rfl;have d1:=hm'.cell 1 _ rfl;have d2:=hm'.cell 2 _ rfl;have d3:=hm'.cell 3 _ rfl;have d4:=hm'.cell 4 _ rfl;have g0:=he'.frozen 0;have Xp:=he'.cell 0 _ rfl;have x0:=hx'.cell 0 _ rfl;have HM:=zh hm';have HE:=zh he';have HC:=zh hc';clear hm he hm' he' hx' hc' yA
 go_region
 obtain⟨wF,hwF,aV,aG⟩:=sV (str []) ah ah ah ah HM.out;have FL:=HE.out.kept aV (by simp;exact Ne.symm hne);have fu:ae [be] wF (wF.setCell ⟨be,0,none⟩ (.iface 140 (ptr b))):=ae.set1 _ _ _ _;refine⟨rfl,.panicking [{ v:=.iface 81 (.agg #[.iface 140 (ptr b)]),recovered:=true }],rfl,.tuple #[],results_none rfl _ _ _,rfl,rfl,?_⟩;rw [hwF];refine⟨((HC.out.then (aV.mono (fun x hx=>.inl (by simp at hx;simp [hx])))).then (fu.mono (fun x hx=>.inl (by simp at hx;simp [hx])))).drew,?_,?_⟩
 ·exact(aG.kept fu (by simpa using hne)).kept (ae.refl [] _).drew (by simp)
 ·have:=(FL.set 0 (.iface 140 (ptr b))).kept (ae.refl [] _).drew (by simp)
  simpa using this
end Go.Proofs.YtechofppmnnomaaGreatDoor
namespace Go.Mq.Tree
open Go Go.RowKit Go.Mq
def Xq (w:World) (r:Ob) (e:Ending) (w':World):Prop:=ae [] w w'∧match r with
 | .ok m=>∃ v,e = .returned (.tuple #[v,.nilIface])∧gY w' (New w w') m v
 | .bad en p=>∃ b,e = .returned (.tuple #[.agg #[str [],ah,ah,ah,ah],.iface 140 (ptr b)])∧w.heap.size≤b∧ag w' b #[.int .i64 en,.int .i64 p] 142
end Go.Mq.Tree
namespace Go.Proofs.YtechofppmnnomaaGreatDoor
open Go Go.RowKit Go.Mq Go.Mq.Tree
set_option maxRecDepth 100000
set_option maxHeartbeats 1000000
theorem Ot (tmps:Array Value) (bm be:Nat) (c0 c1 c2 c3 c4 ev:Value) (w:World) (h2 : tmps[2]?.getD undef=ptr bm) (h3 : tmps[3]?.getD undef=ptr be) (hm:ag w bm #[c0,c1,c2,c3,c4] 32) (he:ag w be #[ev] 34) :
  (results Tryz.f12 tmps).run Tryz.prog w = .ok (.tuple #[.agg #[c0,c1,c2,c3,c4],ev]) w:=by
 have d0:=hm.cell 0 _ rfl;have d1:=hm.cell 1 _ rfl;have d2:=hm.cell 2 _ rfl;have d3:=hm.cell 3 _ rfl;have d4:=hm.cell 4 _ rfl;have e0:=he.cell 0 _ rfl;simp [results,Tryz.results12,h2,h3,go_sem,d0,d1,d2,d3,d4,e0]
theorem Ou (tmps:Array Value) (bm be:Nat) (c0 c1 c2 c3 c4 ev:Value) (w:World) (R:Ending→World→Prop) (h2 : tmps[2]?.getD undef=ptr bm) (h3 : tmps[3]?.getD undef=ptr be) (hm:ag w bm #[c0,c1,c2,c3,c4] 32) (he:ag w be #[ev] 34)
  (hR:R (.returned (.tuple #[.agg #[c0,c1,c2,c3,c4],ev])) w):Leaves Tryz.prog Tryz.f12 tmps R [{ target:=.fn (.func 33) #[ptr bm,ptr be],args:=#[] }] .returning w:=by
 refine leaves_cons (f:=33) (args:=#[ptr bm,ptr be]) (by simp) (by simp [go_sem]) ?_;refine(Xn bm be w).mono ?_;rintro e u' w'' ⟨rfl,rfl,rfl⟩;exact⟨_,Ot tmps bm be c0 c1 c2 c3 c4 ev w'' h2 h3 hm he,hR⟩
theorem Ov (tmps:Array Value) (bm be b:Nat) (c0 c1 c2 c3 c4 ev:Value) (w:World) (R:Ending→World→Prop) (h2 : tmps[2]?.getD undef=ptr bm) (h3 : tmps[3]?.getD undef=ptr be) (hm:ag w bm #[c0,c1,c2,c3,c4] 32) (he:ag w be #[ev] 34) (hne : bm≠be)
  (hR : ∀ w',ae [bm,be] w w'→R (.returned (.tuple #[.agg #[str [],ah,ah,ah,ah],.iface 140 (ptr b)])) w'):Leaves Tryz.prog Tryz.f12 tmps R [{ target:=.fn (.func 33) #[ptr bm,ptr be],args:=#[] }] (.panicking [{ v:=.iface 81 (.agg #[.iface 140 (ptr b)]),recovered:=false }]) w:=by
 refine leaves_cons (f:=33) (args:=#[ptr bm,ptr be]) (by simp) (by simp [go_sem]) ?_;refine(Xo bm be b c0 c1 c2 c3 c4 ev w hm he hne).mono ?_;rintro e u' w'' ⟨rfl,rfl,hc,hm',he'⟩;exact⟨_,Ot tmps bm be _ _ _ _ _ _ w'' h2 h3 hm' he',hR w'' hc⟩
theorem Cs (l:List UInt8) (hl : l.length≤1099511627776) (w:World) (B:Nat) (hL:Laid w B):Calls Tryz.prog 12 #[str l] w (Xq w (parse l)):=by
 have mO : ∀ (fn:Fn) (first cap:Array Value) (w:World),(Instr.makeFunc fn first cap).run Tryz.prog w = .ok (.func fn first cap) w:=fun _ _ _ _=>rfl
 have hw1 : (w.alloc (.cells #[str [],ah,ah,ah,ah] 32)).heap.size=w.heap.size + 1:=by simp
 obtain⟨w0,hw0⟩ : ∃ w0,w0=(w.alloc (.cells #[str [],ah,ah,ah,ah] 32)).alloc (.cells #[.nilIface] 34):=⟨_,rfl⟩
 have hb0:=ag.new (w.alloc (.cells #[str [],ah,ah,ah,ah] 32)) #[.nilIface] 34;have hm0:=(ag.new w #[str [],ah,ah,ah,ah] 32).kept ((ae.refl [] _).alloc (.cells #[.nilIface] 34)) (by simp);have hc0:ae [] w ((w.alloc (.cells #[str [],ah,ah,ah,ah] 32)).alloc (.cells #[.nilIface] 34)):=((ae.refl _ _).alloc _).alloc _;have hs0 : ((w.alloc (.cells #[str [],ah,ah,ah,ah] 32)).alloc (.cells #[.nilIface] 34)).heap.size=w.heap.size + 2:=by simp
 rw [hw1,← hw0] at hb0;rw [← hw0] at hm0 hc0 hs0;have gZ:=zh hb0;have lX:=zh hm0;have aF:=zh hc0;have Jm:Laid w0 B:=hL.kept hc0 (by simp);have HL:=zh Jm;have FM:=zh (Xi l hl w0 B Jm);have hB0:=hL.le;clear hL Jm hb0 hm0 hw1 hc0;cases hx : lex l with
 | bad en q=>
  have HRR:=zh (show parse l = .bad en q by rw [parse,hx]);rw [hx] at FM;clear hx
  go_enter_defers Tryz.func12,Tryz.ntmps12
  go_wp2_with fail
  try rw [← hw0]
  refine FM.out.mono ?_;rintro _ w1 ⟨hc1,b,rfl,hbl,hb1⟩;have hbe:=gZ.out.kept hc1 (by simp);have gy:=lX.out.kept hc1 (by simp);have d0:=hbe.cell 0 _ rfl;have f0:=hbe.frozen 0;clear hw0;have hcs:ae [w.heap.size + 1] w1 (w1.setCell ⟨w.heap.size + 1,0,none⟩ (.iface 140 (ptr b))):=ae.set1 _ _ _ _;have qJ:ag (w1.setCell ⟨w.heap.size + 1,0,none⟩ (.iface 140 (ptr b))) (w.heap.size + 1) #[.iface 140 (ptr b)] 34:=by simpa using hbe.set 0 (.iface 140 (ptr b))
  have Ao:=gy.kept hcs (by simp);have hb2:=hb1.kept hcs (by simp;omega);have hc2:ae [] w _:=(aF.out.then hc1).trans hcs (fun x hx=>.inr (by simp at hx;omega));have Jn:=zh qJ;have rG:=zh Ao;have HB2:=zh hb2;have aD:=zh hc2;clear hc1 hb1 hbe gy hcs qJ Ao hb2 hc2;go_wp2_with fail
  generalize w1.setCell ⟨w.heap.size + 1,0,none⟩ (.iface 140 (ptr b))=w2 at *
  have d0:=Jn.out.cell 0 _ rfl;have f0:=Jn.out.frozen 0;have m0:=rG.out.cell 0 _ rfl;have m1:=rG.out.cell 1 _ rfl;have m2:=rG.out.cell 2 _ rfl;have m3:=rG.out.cell 3 _ rfl;have m4:=rG.out.cell 4 _ rfl;have k0:=rG.out.frozen 0;have k1:=rG.out.frozen 1;have k2:=rG.out.frozen 2;have k3:=rG.out.frozen 3;have k4:=rG.out.frozen 4
  go_region
  obtain⟨wF,hwF,aV,aG⟩:=sV (str []) ah ah ah ah rG.out;have FL:=Jn.out.kept aV (by simp);have fu:ae [w.heap.size + 1] wF (wF.setCell ⟨w.heap.size + 1,0,none⟩ (.iface 140 (ptr b))):=ae.set1 _ _ _ _;have fe:=aG.kept fu (by simp);have Ct:=FL.set 0 (.iface 140 (ptr b));simp only [Array.setIfInBounds,List.size_toArray,List.length_cons,List.length_nil] at Ct;have hb2:=(HB2.out.kept aV (by simp;omega)).kept fu (by simp;omega);have fH:ae [] w (wF.setCell ⟨w.heap.size + 1,0,none⟩ (.iface 140 (ptr b))):=(aD.out.trans aV (fun x hx=>.inr (by simp at hx;omega))).trans fu (fun x hx=>.inr (by simp at hx;omega));have Jo:=zh (And.intro fe (And.intro Ct (And.intro hb2 fH)));clear fe Ct hb2 fH fu FL aG aV d0 f0 m0 m1 m2 m3 m4 k0 k1 k2 k3 k4;rw [hwF];go_wp2_with fail;obtain⟨fe,Ct,hb2,fH⟩:=Jo.out;refine Ou _ _ _ _ _ _ _ _ _ _ _ rfl rfl (fe.kept (ae.refl [] _).drew (by simp)) (Ct.kept (ae.refl [] _).drew (by simp)) ?_;rw [HRR.out];exact⟨fH.drew,b,rfl,by omega,hb2.kept (ae.refl [] _).drew (by simp)⟩
 | ok ts=>
  have Jp:=zh hx;rw [hx] at FM;clear hx
  go_enter_defers Tryz.func12,Tryz.ntmps12
  go_wp2_with fail
  try rw [← hw0]
  refine FM.out.mono ?_;rintro _ w1 ⟨hc1,a,k,rfl,hk,hrow,dK,hshort⟩;obtain⟨bt,off,rfl,hcell⟩:=hrow.at_ (by rw [Jj];simp);have hF:=hrow.own (by rw [Jj];simp) _ rfl;have hbe:=gZ.out.kept hc1 (by simp);have gy:=lX.out.kept hc1 (by simp);have d0:=hbe.cell 0 _ rfl;have f0:=hbe.frozen 0;clear hw0;have hcs:ae [w.heap.size + 1] w1 (w1.setCell ⟨w.heap.size + 1,0,none⟩ .nilIface):=ae.set1 _ _ _ _;have qJ:ag (w1.setCell ⟨w.heap.size + 1,0,none⟩ .nilIface) (w.heap.size + 1) #[.nilIface] 34:=by simpa using hbe.set 0 .nilIface
  have Ao:=gy.kept hcs (by simp);have hc2:ae [] w _:=(aF.out.then hc1).trans hcs (fun x hx=>.inr (by simp at hx;omega));have hs1:=hc1.size;have hL2:=(HL.out.kept hc1 (by simp)).kept hcs (fun x hx=>by simp at hx;omega);have ahR : w0.heap.size≤bt:=hF.1;have hcell2 : ∀ (i:Nat) (v:Value),(uG l.length ts)[i]?=some v→(w1.setCell ⟨w.heap.size + 1,0,none⟩ .nilIface).cell? ⟨bt,off + i,none⟩=some v:=fun i v hv=>hcs.aH (hcell i v hv) (by simp;omega)
  have hs2 : (w1.setCell ⟨w.heap.size + 1,0,none⟩ .nilIface).heap.size=w1.heap.size:=by simp [World.setCell]
  have ahS : bt < w1.heap.size:=hF.2;obtain⟨w2,hw2⟩ : ∃ w2,w2=w1.setCell ⟨w.heap.size + 1,0,none⟩ .nilIface:=⟨_,rfl⟩
  rw [← hw2] at qJ Ao hc2 hL2 hcell2 hs2;obtain⟨w3,hw3⟩ : ∃ w3,w3=w2.alloc (.cells #[.slice (some ⟨bt,off,none⟩) (ts.length + 1) k] 88):=⟨_,rfl⟩
  have hc3:ae [] w2 w3:=by rw [hw3];exact(ae.refl _ _).alloc _
  have hb3:ag w3 w1.heap.size #[.slice (some ⟨bt,off,none⟩) (ts.length + 1) k] 88:=by rw [hw3,← hs2];exact ag.new _ _ _
  have hs3 : w3.heap.size=w1.heap.size + 1:=by rw [hw3,← hs2];simp
  have Ow:bQ w3 B w1.heap.size bt l.length ts:=⟨hL2.kept hc3 (by simp),by omega,by omega,by omega,dK,hshort,off,k,hb3,hk,fun i v hv=>hc3.aH (hcell2 i v hv) (by simp)⟩;have Ox:=qJ.kept hc3 (by simp);have Oy:=Ao.kept hc3 (by simp);have hcw3:ae [] w w3:=hc2.then hc3
  have HM:=zh (Xr w3 B w1.heap.size bt l.length ts Ow);have Oz:=zh Ox;have OA:=zh Oy;have bG:=zh hcw3;have hn2 : w.heap.size + 2≤w1.heap.size:=by omega
  have g0 : w2.cell? ⟨w.heap.size + 1,0,none⟩=some .nilIface:=qJ.cell 0 _ rfl;clear hc1 hrow hcell hF hbe gy hcs qJ Ao hc2 hL2 hcell2 hc3 hb3 Ow Ox Oy hcw3 dK hshort;cases hx : jE l.length ts with
  | bad en q=>
   have HRR:=zh (show parse l = .bad en q by rw [parse,Jp.out];simp only [hx]);rw [hx] at HM;clear hx;go_wp2_with fail;rw [← hw2,← hw3];refine HM.out.mono ?_;intro e w9 he;obtain⟨b9,rfl⟩:=he.thrown;have aW:=zh he;clear he;go_wp2_with fail;obtain⟨bN,b,iR,Xt,bg⟩:=aW.out;cases iR
   refine Ov _ _ _ _ _ _ _ _ _ _ _ _ rfl rfl (OA.out.kept bN (by simp;omega)) (Oz.out.kept bN (by simp;omega)) (by omega) (fun w' hc=>?_);rw [HRR.out];exact⟨(bG.out.trans bN (fun x hx=>.inr (by simp at hx;omega))).trans hc (fun x hx=>.inr (by simp at hx;omega)),_,rfl,by omega,bg.kept hc (by simp;omega)⟩
  | ok m ts'=>
   have OB:=zh hx;rw [hx] at HM;clear hx;go_wp2_with fail;rw [← hw2,← hw3];refine HM.out.mono ?_;rintro _ w4 ⟨hc4,_,rfl,⟨vi,vv,vp,vb,rfl,rF,hmv,hmp,hmb⟩,gz⟩;have OC:=Oz.out.kept hc4 (by simp;omega);have qK:=OA.out.kept hc4 (by simp;omega);have d0:=qK.cell 0 _ rfl;have d1:=qK.cell 1 _ rfl;have d2:=qK.cell 2 _ rfl;have d3:=qK.cell 3 _ rfl;have d4:=qK.cell 4 _ rfl;have f0:=qK.frozen 0;have f1:=qK.frozen 1;have f2:=qK.frozen 2;have f3:=qK.frozen 3;have f4:=qK.frozen 4;have hs4:=hc4.size;have qL:ae [] w w4:=bG.out.trans hc4 (fun x hx=>.inr (by simp at hx;omega));have Xu:=zh (show gY w4 (New w3 w4) m (.agg #[str m.name,vi,vv,vp,vb]) from⟨vi,vv,vp,vb,rfl,rF,hmv,hmp,hmb⟩);obtain⟨ai,ci,rfl,_⟩:=rF;obtain⟨av,cv,rfl,_⟩:=hmv;obtain⟨ap,cp,_,rfl,_⟩:=hmp;obtain⟨ab,cb,_,rfl,_⟩:=hmb;obtain⟨wF,hwF,aV,aG⟩:=sV (str m.name) (.slice ai m.imports.length ci) (.slice av m.vars.length cv) (.slice ap m.procs.length cp) (.slice ab m.body.len cb) qK;have sW:=gz.kept aV (fun x hx=>by simp at hx;omega) (by simp;omega) (by simp;omega);have FN:=OC.kept aV (by simp);have HPF:=zh sW;have qM:=zh aG;have OD:=zh FN;have dM:=zh aV;have aC:=zh qL;have g0:=aG.cell 0 _ rfl;have g1:=aG.cell 1 _ rfl;have g2:=aG.cell 2 _ rfl;have g3:=aG.cell 3 _ rfl;have g4:=aG.cell 4 _ rfl;have k0:=aG.frozen 0;have k1:=aG.frozen 1;have k2:=aG.frozen 2;have k3:=aG.frozen 3;have k4:=aG.frozen 4;have ge:=FN.cell 0 _ rfl;have ke:=FN.frozen 0;clear hc4 OC qK aV gz FN aG qL;cases ts' with
   | nil=>
    have HRR:=zh (show parse l = .ok m by rw [parse,Jp.out];simp only [OB.out]);obtain⟨o2,c2,p0,p1,_,hl2⟩:=yB sW;obtain⟨wG,FO,fH,Cu⟩:=sV (str m.name) (.slice ai m.imports.length ci) (.slice av m.vars.length cv) (.slice ap m.procs.length cp) (.slice ab m.body.len cb) qM.out;have FP:=OD.out.kept fH (by simp);have geG:=FP.cell 0 _ rfl;have keG:=FP.frozen 0;obtain⟨wH,OE⟩ : ∃ wH,wG.setCell ⟨w.heap.size + 1,0,none⟩ .nilIface=wH:=⟨_,rfl⟩
    have Cv:ae [w.heap.size + 1] wG wH:=by rw [← OE];exact ae.set1 _ _ _ _
    have OG:ag wH (w.heap.size + 1) #[.nilIface] 34:=by rw [← OE];simpa using FP.set 0 .nilIface
    have OH:=Cu.kept Cv (by simp);have yC:=dM.out.trans fH (fun x hx=>.inl hx);have OI:gY wH (New w wH) m (.agg #[str m.name,.slice ai m.imports.length ci,.slice av m.vars.length cv,.slice ap m.procs.length cp,.slice ab m.body.len cb]):=by
     have Jq:=yC.size;have hsH:=Cv.size;refine((Xu.out.kept yC (fun x hx hn=>?_)).kept Cv (fun x hx hn=>?_)).mono (fun x hx=>⟨by have:=hx.1;omega,by have:=hx.2;omega⟩)
     ·simp at hx;have:=hn.1;omega
     ·simp at hx;have:=hn.1;omega
    have Xv:=zh OH;have Xw:=zh OG;have Xx:=zh OI;have qN:=zh ((aC.out.trans yC (fun x hx=>.inr (by simp at hx;omega))).trans Cv (fun x hx=>.inr (by simp at hx;omega)));clear sW fH Cu FP Cv OG OH yC OI;go_wp2_with fail;exact Ou _ _ _ _ _ _ _ _ _ _ _ rfl rfl Xv.out Xw.out (by rw [HRR.out];exact⟨qN.out,_,rfl,Xx.out⟩)
   | cons t r=>
    have HRR:=zh (show parse l = .bad 3 t.pos by rw [parse,Jp.out];simp only [OB.out]);obtain⟨o2,c2,hpb,p0,p1,p2,p3,hl2,_⟩:=uJ sW;have hkn:=OJ t.kind;have Xy:=zh (lF 3 wF B w1.heap.size bt l.length (t :: r) sW);clear sW hpb;go_wp2_with fail;refine Xy.out.mono ?_;intro e w9 he;obtain⟨b9,rfl⟩:=he.thrown;have aW:=zh he;clear he;go_wp2_with fail;obtain⟨bN,b,iR,Xt,bg⟩:=aW.out;cases iR
    have Jq:=dM.out.size;refine Ov _ _ _ _ _ _ _ _ _ _ _ _ rfl rfl (qM.out.kept bN (by simp;omega)) (OD.out.kept bN (by simp;omega)) (by omega) (fun w' hc=>?_);rw [HRR.out];exact⟨((aC.out.trans dM.out (fun x hx=>.inr (by simp at hx;omega))).trans bN (fun x hx=>.inr (by simp at hx;omega))).trans hc (fun x hx=>.inr (by simp at hx;omega)),_,rfl,by omega,bg.kept hc (by simp;omega)⟩
end Go.Proofs.YtechofppmnnomaaGreatDoor
namespace Go.Mq.Tree
open Go Go.RowKit Go.Mq
def wo (c:UInt8):Bool:=letter c || digit c
def qO:List UInt8→Kind
 | []=>.mark
 | c :: _=>if letter c then .word else if digit c then .number else .mark
def FQ (t:List UInt8):Prop:=∃ c r,t=c :: r∧letter c=true ∧ ∀ x∈r,wo x=true
def Cw (t:List UInt8):Prop:=∃ c r,t=c :: r∧digit c=true ∧ ∀ x∈r,digit x=true
def Ap (t:List UInt8):Prop:=FQ t∨Cw t∨t∈marks
def Ends (t:List UInt8):List UInt8→Prop
 | []=>True
 | b :: _=>(qO t ≠ .mark→wo b=false)∧(b.toNat=61→t≠[58]∧t≠[60]∧t≠[62])
inductive Cx:List UInt8→List (List UInt8)→Prop
 | nil:Cx [] []
 | gap {c u K} : gap c=true→Cx u K→Cx (c :: u) K
 | tok {t u K} : Ap t→Ends t u→Cx u K→Cx (t ++ u) (t :: K)
inductive sZ:List UInt8→List UInt8→Prop
 | nil:sZ [] []
 | byte {c u v} : gap c=false→sZ u v→sZ (c :: u) (c :: v)
 | gap {c g u v} : gap c=true→g≠[]→(∀ x∈g,gap x=true)→sZ u v→sZ (c :: u) (g ++ v)
theorem sZ.refl : ∀ u,sZ u u
 | []=>.nil
 | c :: u=>by
  cases h:Tree.gap c with
  | false=>exact .byte h (sZ.refl u)
  | true=>exact sZ.gap (g:=[c]) h (by simp) (by simpa using h) (sZ.refl u)
theorem Xz {c:UInt8} (h : letter c=true) : 97≤c.toNat∧c.toNat≤122:=by simpa [letter] using h
theorem Jr {c:UInt8} (h : digit c=true) : 48≤c.toNat∧c.toNat≤57:=by simpa [digit] using h
theorem XA {t:List UInt8} (h:Ap t) : t≠[]:=by
 rcases h with⟨c,r,rfl,_,_⟩|⟨c,r,rfl,_,_⟩|h
 ·simp
 ·simp
 ·revert h;revert t;decide
theorem XB {c:UInt8} (h : digit c=true) : letter c=false:=by
 cases hl : letter c with
 | false=>rfl
 | true=>have:=Xz hl;have:=Jr h;omega
theorem OL {t:List UInt8} (h:FQ t) : qO t = .word:=by
 obtain⟨c,r,rfl,hc,_⟩:=h;simp [qO,hc]
theorem OM {t:List UInt8} (h:Cw t) : qO t = .number:=by
 obtain⟨c,r,rfl,hc,_⟩:=h;simp [qO,hc,XB hc]
theorem Js : ∀ t∈marks,qO t = .mark:=by decide
theorem Jt {f:UInt8→Bool} : ∀ (l:List UInt8),(∀ x∈l.take (gq f l),f x=true)∧gq f l≤l.length
 | []=>by simp [gq]
 | c :: t=>by
  have h:=Jt (f:=f) t;cases hc : f c with
  | false=>simp [gq,hc]
  | true=>
   simp only [gq,hc,if_true,List.take_succ_cons,List.length_cons];exact⟨fun x hx=>(List.mem_cons.mp hx).elim (fun e=>e ▸ hc) (h.1 x),by omega⟩
theorem XC {l:List UInt8} (h : (dU l).2≠0):Ap (l.take (dU l).2)∧qO (l.take (dU l).2)=(dU l).1∧(dU l).2≤l.length:=by
 cases l with
 | nil=>simp [dU] at h
 | cons c t=>
  rw [dU] at h ⊢;by_cases hl : letter c=true
  ·rw [if_pos hl] at h ⊢
   have hh:=Jt (f:=fun c=>letter c || digit c) (c :: t);have he : gq (fun c=>letter c || digit c) (c :: t)=gq (fun c=>letter c || digit c) t + 1:=by simp [gq,hl]
   simp only [he,List.take_succ_cons] at hh ⊢;have hw:FQ (c :: t.take (gq (fun c=>letter c || digit c) t)):=⟨c,_,rfl,hl,fun x hx=>by simpa [wo] using hh.1 x (by simp [hx])⟩;exact⟨.inl hw,OL hw,hh.2⟩
  ·rw [if_neg hl] at h ⊢
   by_cases hd : digit c=true
   ·rw [if_pos hd] at h ⊢
    have hh:=Jt (f:=digit) (c :: t);have he : gq digit (c :: t)=gq digit t + 1:=by simp [gq,hd]
    simp only [he,List.take_succ_cons] at hh ⊢;have hw:Cw (c :: t.take (gq digit t)):=⟨c,_,rfl,hd,fun x hx=>hh.1 x (by simp [hx])⟩;exact⟨.inr (.inl hw),OM hw,hh.2⟩
   ·rw [if_neg hd] at h ⊢
    cases hf : marks.find? fun m=>m.isPrefixOf (c :: t) with
    | none=>simp [hf] at h
    | some m=>
     have h1:=List.mem_of_find?_eq_some hf;have h2:=List.find?_some hf;obtain⟨v,hv⟩:=List.isPrefixOf_iff_prefix.mp h2;simp only [Option.map_some,Option.getD_some];rw [← hv];simp only [List.take_left,List.length_append];exact⟨.inr (.inr h1),Js m h1,by omega⟩
def bytes (ts:List Tok):Nat:=(ts.map fun t=>t.text.length).sum
def Good (ts:List Tok):Prop:=∀ t∈ts,Ap t.text∧t.kind=qO t.text
theorem Ju : ∀ (f i k:Nat) (l:List UInt8) (ts:List Tok),jQ f i k l = .ok ts→Good ts∧bytes ts≤l.length
 | 0,_,_,l,ts,h=>by cases h;exact⟨fun _ h=>by simp at h,by simp [bytes]⟩
 | f + 1,i,k,[],ts,h=>by cases h;exact⟨fun _ h=>by simp at h,by simp [bytes]⟩
 | f + 1,i,k,c :: t,ts,h=>by
  rw [jQ] at h;split at h
  ·have:=Ju f _ _ _ _ h
   exact⟨this.1,by simp only [List.length_cons];omega⟩
  ·split at h
   ·cases h
   ·rename_i hn
    split at h
    ·cases h
    ·split at h
     ·rename_i ts' hts
      cases h
      have h1:=Ju f _ _ _ _ hts;have h2:=XC hn;refine⟨?_,?_⟩
      ·intro x hx
       rcases List.mem_cons.mp hx with rfl|hx
       ·exact⟨h2.1,h2.2.1.symm⟩
       ·exact h1.1 x hx
      ·have h3:=h1.2
       have h4 : ((c :: t).take (dU (c :: t)).2).length=(dU (c :: t)).2:=by rw [List.length_take];exact Nat.min_eq_left h2.2.2
       rw [List.length_drop] at h3;simp only [bytes,List.map_cons,List.sum_cons,h4] at h3 ⊢;have:=h2.2.2;omega
     ·cases h
end Go.Mq.Tree
namespace Go.Mq.Tree
open Go Go.RowKit Go.Mq
def Nm (n:List UInt8):Prop:=FQ n∧kept n=false∧n.length≤10
def Qm (m:List UInt8):Prop:=m=[]∨Nm m
def E.oC:E→Prop
 | .nil=>False
 | .cons _ _=>False
 | _=>True
def E.Aq:E→Prop
 | .nil=>True
 | .cons _ _=>True
 | _=>False
def WF:E→Prop
 | .num _ n=>0≤n∧n≤9223372036854775807
 | .var _ m n=>Qm m∧Nm n
 | .item _ m n i=>Qm m∧Nm n∧WF i∧i.oC
 | .un _ op x=>(op=[45]∨op=[110,111,116])∧WF x∧x.oC
 | .bin _ op x y=>(∃ k,k < 5∧op∈levels.getD (4 - k) [])∧(WF x∧x.oC)∧WF y∧y.oC
 | .app _ m n l=>Qm m∧Nm n∧WF l∧l.Aq
 | .nil=>True
 | .cons x r=>(WF x∧x.oC)∧WF r∧r.Aq
def nJ (lv:Nat) (x:E) (k:Nat):Nat:=if lv≤lvl x then k else k + 1
def need:E→Nat
 | .num _ _=>1
 | .var _ _ _=>1
 | .item _ _ _ i=>need i + 1
 | .un _ _ x=>nJ 5 x (need x) + 1
 | .bin _ op x y=>max (nJ (qH op) x (need x)) (nJ (qH op + 1) y (need y))
 | .app _ _ _ l=>need l + 1
 | .nil=>0
 | .cons x r=>max (need x) (need r)
def jT (lv:Nat) (x:E) (K:List (List UInt8)):List (List UInt8):=if lv≤lvl x then K else [40] :: (K ++ [[41]])
def oD (m n:List UInt8):List (List UInt8):=if m=[] then [n] else [m,[46],n]
def toks:E→List (List UInt8)
 | .num _ n=>[Lib.itoa n]
 | .var _ m n=>oD m n
 | .item _ m n i=>oD m n ++ [91] :: (toks i ++ [[93]])
 | .un _ op x=>op :: jT 5 x (toks x)
 | .bin _ op x y=>jT (qH op) x (toks x) ++ op :: jT (qH op + 1) y (toks y)
 | .app _ m n l=>oD m n ++ [40] :: (toks l ++ [[41]])
 | .nil=>[]
 | .cons x .nil=>toks x
 | .cons x r=>toks x ++ [44] :: toks r
def E.cost:E→Nat
 | .cons x r=>(toks x).length + 1 + r.cost
 | _=>0
def Sp {α:Type} (p:Ps α) (Q : α→Prop) (c : α→Nat):Prop:=∀ ts a r,Good ts→p ts = .ok a r→Q a∧c a + bytes r≤bytes ts∧Good r
theorem FR (t:Tok) (r:List Tok) : bytes (t :: r)=t.text.length + bytes r:=by simp [bytes]
theorem FT {t:Tok} {r:List Tok} (h:Good (t :: r)) : (Ap t.text∧t.kind=qO t.text)∧Good r:=⟨h t (by simp),fun x hx=>h x (by simp [hx])⟩
theorem Jv {t:List UInt8} (h:Ap t) : 1≤t.length:=by
 cases t with
 | nil=>exact absurd rfl (XA h)
 | cons _ _=>simp
theorem jH {s:List UInt8} {ts:List Tok} (hg:Good ts) (h : see s ts=true) : s.length + bytes ts.tail=bytes ts∧Good ts.tail:=by
 cases ts with
 | nil=>simp [see] at h
 | cons t r=>
  have : t.text=s:=by simpa [see] using h
  exact⟨by rw [FR,this];rfl,(FT hg).2⟩
theorem jU {z:Nat} {s:List UInt8} {ts:List Tok} {u:Unit} {r:List Tok} (hg:Good ts) (h : must z s ts = .ok u r) : s.length + bytes r=bytes ts∧Good r:=by
 rw [must] at h;split at h
 ·rename_i hs;cases h;exact jH hg hs
 ·cases h
theorem Ar {z:Nat} : Sp (name z) Nm (fun _=>1):=by
 intro ts n r hg h;cases ts with
 | nil=>cases h
 | cons t ts=>
  rw [name] at h;split at h
  ·cases h
  ·rename_i h1
   split at h
   ·cases h
   ·rename_i h2
    cases h
    have hg:=FT hg;have hk : qO t.text = .word:=by rw [← hg.1.2];exact Classical.not_not.mp fun h=>h1 (.inl h)
    refine⟨⟨?_,by simpa using fun h=>h1 (.inr h),by omega⟩,by show 1 + _≤_;rw [FR];have:=Jv hg.1.1;omega,hg.2⟩;rcases hg.1.1 with h|h|h
    ·exact h
    ·rw [OM h] at hk;cases hk
    ·rw [Js _ h] at hk;cases hk
theorem OO {z:Nat} {most:Int} : Sp (number z most) (fun n=>0≤n∧n≤most) (fun _=>1):=by
 intro ts n r hg h;cases ts with
 | nil=>cases h
 | cons t ts=>
  rw [number] at h;split at h
  ·cases h
  ·rename_i h1
   have hg:=FT hg;have hk : qO t.text = .number:=by rw [← hg.1.2];exact Classical.not_not.mp h1
   have hn:Cw t.text:=by
    rcases hg.1.1 with h|h|h
    ·rw [OL h] at hk;cases hk
    ·exact h
    ·rw [Js _ h] at hk;cases hk
   split at h
   ·rename_i n' hp
    split at h
    ·cases h
    ·rename_i h2
     cases h
     refine⟨⟨?_,by omega⟩,by show 1 + _≤_;rw [FR];have:=Jv hg.1.1;omega,hg.2⟩;obtain⟨c,r,hc,hd,_⟩:=hn;rw [hc] at hp;have hd:=Jr hd;have e : (c.toNat=45)=False:=by simp;omega
     unfold Lib.parseIntB at hp
     simp only [e,not_false_eq_true,true_and,false_and,if_false] at hp;split at hp
     ·cases hp
     ·cases hp
     ·split at hp
      ·cases hp
      ·injection hp with hp;omega
   ·cases h
theorem OP {z most:Nat} : ∀ (f:Nat) (l:List (List UInt8)) (ts:List Tok) (l':List (List UInt8)) (r:List Tok),Good ts→(∀ n∈l,Nm n)→l.length≤most→rA z most f l ts = .ok l' r →
  (∀ n∈l',Nm n)∧l'.length≤most∧l.length < l'.length∧2 * l'.length + bytes r≤2 * l.length + bytes ts + 1∧Good r
 | 0,_,_,_,_,_,_,_,h=>by cases h
 | f + 1,l,ts,l',r,hg,hl,hm,h=>by
  rw [rA] at h;split at h
  ·cases h
  ·cases hn : name z ts with
   | bad e p=>simp only [hn] at h;cases h
   | ok n r1=>
    obtain⟨h1,h2,h3⟩:=Ar _ _ _ hg hn
    replace h2 : 1 + bytes r1≤bytes ts:=h2
    have hl2 : ∀ x∈l ++ [n],Nm x:=by
     intro x hx;rcases List.mem_append.mp hx with hx|hx
     ·exact hl x hx
     ·simp at hx;subst hx;exact h1
    simp only [hn] at h;split at h
    ·rename_i hs
     have hc:=jH h3 hs;have hr:=OP f _ _ _ _ hc.2 hl2 (by simp;omega) h;simp only [List.length_append,List.length_cons,List.length_nil] at hr hc;exact⟨hr.1,hr.2.1,by omega,by omega,hr.2.2.2.2⟩
    ·cases h
     exact⟨hl2,by simp;omega,by simp,by simp;omega,h3⟩
theorem OQ {z most:Nat} {ts:List Tok} {l:List (List UInt8)} {r:List Tok} (hg:Good ts) (h : names z most ts = .ok l r) : (∀ n∈l,Nm n)∧l.length≤most∧l≠[]∧2 * l.length + bytes r≤bytes ts + 1∧Good r:=by
 have:=OP _ _ _ _ _ hg (by simp) (by simp) h;simp only [List.length_nil] at this;exact⟨this.1,this.2.1,fun h=>by rw [h] at this;simp at this,by omega,this.2.2.2.2⟩
theorem XD {z:Nat} : Sp (pQ z) (fun q=>Qm q.1∧Nm q.2) (fun q=>(oD q.1 q.2).length):=by
 intro ts q r hg h;rw [pQ] at h;cases h1 : name z ts with
 | bad e p=>simp only [h1] at h;cases h
 | ok n r1=>
  obtain⟨a1,a2,a3⟩:=Ar _ _ _ hg h1
  replace a2 : 1 + bytes r1≤bytes ts:=a2
  simp only [h1] at h;split at h
  ·rename_i hs
   have hc:=jH a3 hs;cases h2 : name z r1.tail with
   | bad e p=>simp only [h2] at h;cases h
   | ok n2 r2=>
    obtain⟨b1,b2,b3⟩:=Ar _ _ _ hc.2 h2
    replace b2 : 1 + bytes r2≤bytes r1.tail:=b2
    simp only [h2] at h;cases h
    refine⟨⟨.inr a1,b1⟩,?_,b3⟩;have : (oD n n2).length≤3:=by rw [oD];split <;> simp
    simp only [List.length_cons,List.length_nil] at hc;simp only;omega
  ·cases h
   exact⟨⟨.inl rfl,a1⟩,by simp [oD];omega,a3⟩
theorem XE : ∀ k < 5,∀ op∈levels.getD (4 - k) [],qH op=4 - k:=by decide
theorem XF (lv:Nat) (x:E) (K:List (List UInt8)) : (jT lv x K).length≤K.length + 2:=by rw [jT];split <;> simp
theorem XG {a b:Nat} (h : a≤b) (x:E) (K:List (List UInt8)) : (jT a x K).length≤(jT b x K).length:=by
 rw [jT,jT];split <;> split <;> simp <;> omega
theorem XH {a b:Nat} (h : a≤b) (x:E) (k:Nat) : nJ a x k≤nJ b x k:=by
 rw [nJ,nJ];split <;> split <;> omega
def Fits (d lv:Nat) (x:E):Prop:=(WF x∧x.oC)∧nJ lv x (need x)≤d
def gB (lv:Nat) (x:E):Nat:=(jT lv x (toks x)).length
theorem XI {lv:List (List UInt8)} {ts:List Tok} {m:List UInt8} (hg:Good ts) (h : rC lv ts=some m) : m∈lv∧1 + bytes ts.tail≤bytes ts∧Good ts.tail:=by
 have h1:=List.mem_of_find?_eq_some h;have h2:=List.find?_some h;have h3:=jH hg h2;refine⟨h1,?_,h3.2⟩;cases ts with
 | nil=>simp [see] at h2
 | cons t r=>rw [FR];have:=Jv (FT hg).1.1;simp;omega
theorem OT {sub:Ps E} {k d:Nat} (p:Nat) (hk : k < 5) (hs:Sp sub (Fits d (5 - k)) (gB (5 - k))) : ∀ (f:Nat) (x:E) (ts:List Tok) (a:E) (r:List Tok),Good ts→Fits d (4 - k) x→oq sub (levels.getD (4 - k) []) p f x ts = .ok a r →
  Fits d (4 - k) a∧gB (4 - k) a + bytes r≤gB (4 - k) x + bytes ts∧Good r
 | 0,_,_,_,_,_,_,h=>by cases h
 | f + 1,x,ts,a,r,hg,hx,h=>by
  rw [oq] at h;split at h
  ·cases h;exact⟨hx,Nat.le_refl _,hg⟩
  ·rename_i m hm
   obtain⟨o1,o2,o3⟩:=XI hg hm;cases hy : sub ts.tail with
   | bad e q=>simp only [hy] at h;cases h
   | ok y r1=>
    obtain⟨y1,y2,y3⟩:=hs _ _ _ o3 hy;simp only [hy] at h;have hlv:=XE k hk m o1;have e5 : 5 - k=4 - k + 1:=by omega
    rw [e5] at y1 y2;have hb:Fits d (4 - k) (.bin p m x y):=by
     refine⟨⟨⟨⟨k,hk,o1⟩,hx.1,y1.1⟩,trivial⟩,?_⟩;have h1:=hx.2;have h2:=y1.2;rw [nJ,if_pos (by rw [lvl,hlv];exact Nat.le_refl _),need,hlv];omega
    obtain⟨b1,b2,b3⟩:=OT p hk hs f _ _ _ _ y3 hb h;have hc : gB (4 - k) (.bin p m x y)=gB (4 - k) x + 1 + gB (4 - k + 1) y:=by
     rw [gB,jT,if_pos (by rw [lvl,hlv];exact Nat.le_refl _),toks,hlv,List.length_append,List.length_cons,gB,gB];omega
    exact⟨b1,by omega,b3⟩
theorem FU {z d:Nat} {base:Ps E} (hb:Sp base (Fits d 5) (gB 5)) : ∀ (k:Nat),k≤5→Sp (expr z base k) (Fits d (5 - k)) (gB (5 - k))
 | 0,_=>hb
 | k + 1,hk=>by
  intro ts a r hg h;have ih:=FU (z:=z) hb k (by omega);rw [expr] at h;cases hx : expr z base k ts with
  | bad e q=>simp only [hx] at h;cases h
  | ok x r1=>
   obtain⟨x1,x2,x3⟩:=ih _ _ _ hg hx;simp only [hx] at h;have e4 : 5 - (k + 1)=4 - k:=by omega
   rw [e4];have hx':Fits d (4 - k) x:=⟨x1.1,Nat.le_trans (XH (by omega) _ _) x1.2⟩;obtain⟨b1,b2,b3⟩:=OT _ (by omega) ih _ _ _ _ _ x3 hx' h;have : gB (4 - k) x≤gB (5 - k) x:=XG (by omega) _ _;exact⟨b1,by omega,b3⟩
theorem OU : ∀ l,(E.ofList l).Aq
 | []=>trivial
 | _ :: _=>trivial
theorem OV : ∀ (x:E) (l:List E),(toks (E.ofList (x :: l))).length + 1=(E.ofList (x :: l)).cost
 | x,[]=>by simp [E.ofList,toks,E.cost]
 | x,y :: r=>by
  have:=OV y r;simp only [E.ofList] at this ⊢;rw [toks,E.cost]
  ·simp only [List.length_append,List.length_cons];omega
  ·intro h;cases h
theorem OW : ∀ (l:List E) (x:E),(E.ofList (l ++ [x])).cost=(E.ofList l).cost + (toks x).length + 1
 | [],x=>by simp [E.ofList,E.cost]
 | y :: l,x=>by simp only [List.cons_append,E.ofList,E.cost,OW l x];omega
theorem OX {z d:Nat} {ex:Ps E} (he:Sp ex (Fits d 0) (gB 0)) : ∀ (f:Nat) (first:Bool) (l:List E) (ts:List Tok) (l':List E) (r:List Tok),Good ts→(∀ x∈l,Fits d 0 x)→jc z ex f first l ts = .ok l' r →
  (∀ x∈l',Fits d 0 x)∧((l'=l∧1 + bytes r=bytes ts)∨(l'≠[]∧(E.ofList l').cost + 1 + bytes r≤(E.ofList l).cost + bytes ts + (if first then 1 else 0)))∧Good r
 | 0,_,_,_,_,_,_,_,h=>by cases h
 | f + 1,first,l,ts,l',r,hg,hl,h=>by
  rw [jc] at h;split at h
  ·rename_i hs
   cases h
   have:=jH hg hs;exact⟨hl,.inl ⟨rfl,by simpa using this.1⟩,this.2⟩
  ·split at h
   ·cases h
   ·rename_i h2
    have h3 : (Good (if first then ts else ts.tail))∧bytes (if first then ts else ts.tail) + (if first then 0 else 1)=bytes ts:=by
     cases first with
     | true=>exact⟨hg,rfl⟩
     | false=>
      have hs : see [44] ts=true:=by simpa using h2
      have:=jH hg hs;exact⟨this.2,by simp only [List.length_cons,List.length_nil] at this;simp;omega⟩
    cases hx : ex (if first then ts else ts.tail) with
    | bad e q=>simp only [hx] at h;cases h
    | ok x r1=>
     obtain⟨x1,x2,x3⟩:=he _ _ _ h3.1 hx;simp only [hx] at h;have hl2 : ∀ y∈l ++ [x],Fits d 0 y:=by
      intro y hy;rcases List.mem_append.mp hy with hy|hy
      ·exact hl y hy
      ·simp at hy;subst hy;exact x1
     obtain⟨b1,b2,b3⟩:=OX he f false _ _ _ _ x3 hl2 h;have : gB 0 x=(toks x).length:=by rw [gB,jT,if_pos (Nat.zero_le _)]
     refine⟨b1,.inr ?_,b3⟩;have aO:=OW l x;rcases b2 with⟨rfl,b2⟩|⟨n2,b2⟩
     ·refine⟨by simp,?_⟩
      rw [aO];cases first <;> simp at * <;> omega
     ·refine⟨n2,?_⟩
      rw [aO] at b2;cases first <;> simp at * <;> omega
theorem OY {d:Nat} : ∀ l:List E,(∀ x∈l,Fits d 0 x)→WF (E.ofList l)∧need (E.ofList l)≤d
 | [],_=>⟨trivial,Nat.zero_le _⟩
 | x :: l,h=>by
  have h1:=h x (by simp);have h2:=OY l fun y hy=>h y (by simp [hy])
  have h3:=h1.2;rw [nJ,if_pos (Nat.zero_le _)] at h3;exact⟨⟨h1.1,h2.1,OU l⟩,by rw [E.ofList,need];omega⟩
theorem Cy {d:Nat} {x:E} (h:WF x∧x.oC) (hl : lvl x=5) (hn : need x≤d):Fits d 5 x∧gB 5 x=(toks x).length:=by
 refine⟨⟨h,?_⟩,?_⟩
 ·rw [nJ,if_pos (by omega)];exact hn
 ·rw [gB,jT,if_pos (by omega)]
theorem Jw {d:Nat} {x:E} (h:Fits d 0 x) : need x≤d∧gB 0 x=(toks x).length:=by
 have:=h.2;rw [nJ,if_pos (Nat.zero_le _)] at this;exact⟨this,by rw [gB,jT,if_pos (Nat.zero_le _)]⟩
theorem Jy {z d:Nat} {ex:Ps E} (he:Sp ex (Fits d 0) (gB 0)):Sp (named z ex) (Fits (d + 1) 5) (gB 5):=by
 intro ts a r hg h;rw [named] at h;cases hq : pQ z ts with
 | bad e p=>simp only [hq] at h;cases h
 | ok q r1=>
  obtain⟨q1,q2,q3⟩:=XD _ _ _ hg hq
  replace q2 : (oD q.1 q.2).length + bytes r1≤bytes ts:=q2
  simp only [hq] at h;split at h
  ·rename_i hs
   have hc:=jH q3 hs;cases hx : ex r1.tail with
   | bad e p=>simp only [hx] at h;cases h
   | ok i r2=>
    obtain⟨x1,x2,x3⟩:=he _ _ _ hc.2 hx;simp only [hx] at h;cases hm : must z [93] r2 with
    | bad e p=>simp only [hm] at h;cases h
    | ok u r3=>
     have m1:=jU x3 hm;simp only [hm] at h;cases h
     have ⟨n1,c1⟩:=Jw x1;obtain⟨f1,f2⟩:=Cy (d:=d + 1) (x:=.item (hd z ts) q.1 q.2 i) ⟨⟨q1.1,q1.2,x1.1⟩,trivial⟩ rfl (by rw [need];omega);refine⟨f1,?_,m1.2⟩;rw [f2,toks];simp only [List.length_append,List.length_cons,List.length_nil] at *;omega
  ·split at h
   ·rename_i hs
    have hc:=jH q3 hs;cases hx : jc z ex (r1.length + 1) true [] r1.tail with
    | bad e p=>simp only [hx] at h;cases h
    | ok l r2=>
     obtain⟨x1,x2,x3⟩:=OX he _ _ _ _ _ _ hc.2 (by simp) hx;simp only [hx] at h;cases h
     have ⟨n1,n2⟩:=OY l x1;have n3 : (toks (E.ofList l)).length + 1 + bytes r≤bytes r1.tail:=by
      rcases x2 with⟨rfl,x2⟩|⟨x2,x3⟩
      ·simp [E.ofList,toks];omega
      ·cases l with
       | nil=>exact absurd rfl x2
       | cons y l=>have:=OV y l;simp only [E.ofList,E.cost,if_true] at *;omega
     obtain⟨f1,f2⟩:=Cy (d:=d + 1) (x:=.app (hd z ts) q.1 q.2 (E.ofList l)) ⟨⟨q1.1,q1.2,n1,OU l⟩,trivial⟩ rfl (by rw [need];omega);refine⟨f1,?_,x3⟩;rw [f2,toks];simp only [List.length_append,List.length_cons,List.length_nil] at *;omega
   ·cases h
    obtain⟨f1,f2⟩:=Cy (d:=d + 1) (x:=.var (hd z ts) q.1 q.2) ⟨⟨q1.1,q1.2⟩,trivial⟩ rfl (by rw [need];omega);exact⟨f1,by rw [f2,toks];exact q2,q3⟩
theorem Jz (z:Nat) : ∀ d,Sp (one z d) (Fits d 5) (gB 5)
 | 0=>by intro ts a r _ h;cases h
 | d + 1=>by
  intro ts a r hg h;have ih:=Jz z d;have hex:Sp (expr z (one z d) 5) (Fits d 0) (gB 0):=FU ih 5 (Nat.le_refl _);have un : ∀ (s:List UInt8),(s=[45]∨s=[110,111,116])→see s ts=true→(match one z d ts.tail with | .bad e p=>R.bad e p | .ok x r=>.ok (.un (hd z ts) s x) r)=R.ok a r→Fits (d + 1) 5 a∧gB 5 a + bytes r≤bytes ts∧Good r:=by
   intro s hs h1 h;have hc:=jH hg h1;have hl : 1≤s.length:=by rcases hs with rfl|rfl <;> simp
   cases hx : one z d ts.tail with
   | bad e p=>simp only [hx] at h;cases h
   | ok x r1=>
    obtain⟨x1,x2,x3⟩:=ih _ _ _ hc.2 hx;simp only [hx] at h;cases h
    obtain⟨f1,f2⟩:=Cy (d:=d + 1) (x:=.un (hd z ts) s x) ⟨⟨hs,x1.1⟩,trivial⟩ rfl (by rw [need];have:=x1.2;omega);refine⟨f1,?_,x3⟩;rw [f2,toks,List.length_cons];rw [gB] at x2;omega
  rw [one] at h
  dsimp only at h
  split at h
  ·rename_i h1;exact un _ (.inl rfl) h1 h
  ·split at h
   ·rename_i h1;exact un _ (.inr rfl) h1 h
   ·split at h
    ·rename_i h1
     have hc:=jH hg h1;cases hx : expr z (one z d) 5 ts.tail with
     | bad e p=>simp only [hx] at h;cases h
     | ok x r1=>
      obtain⟨x1,x2,x3⟩:=hex _ _ _ hc.2 hx;simp only [hx] at h;cases hm : must z [41] r1 with
      | bad e p=>simp only [hm] at h;cases h
      | ok u r2=>
       have m1:=jU x3 hm;simp only [hm] at h;cases h
       have ⟨n1,c1⟩:=Jw x1;refine⟨⟨x1.1,?_⟩,?_,m1.2⟩
       ·rw [nJ];split <;> omega
       ·have:=XF 5 a (toks a)
        rw [gB];simp only [List.length_cons,List.length_nil] at *;omega
    ·cases ts with
     | nil=>exact Jy hex _ _ _ hg h
     | cons t ts=>
      simp only at h;split at h
      ·rename_i hk
       cases hn : number z 9223372036854775807 (t :: ts) with
       | bad e p=>simp only [hn] at h;cases h
       | ok n r1=>
        obtain⟨a1,a2,a3⟩:=OO _ _ _ hg hn;simp only [hn] at h;cases h
        obtain⟨f1,f2⟩:=Cy (d:=d + 1) (x:=.num t.pos n) ⟨a1,trivial⟩ rfl (by rw [need];omega);exact⟨f1,by rw [f2,toks];exact a2,a3⟩
      ·exact Jy hex _ _ _ hg h
theorem XJ (z:Nat):Sp (iA z) (Fits 11 0) (gB 0):=FU (Jz z 11) 5 (Nat.le_refl _)
end Go.Mq.Tree
namespace Go.Mq.Tree
open Go Go.RowKit Go.Mq
def gI:Nat→S→Prop
 | _,.nil=>True
 | d,.set _ n i v r=>Nm n∧(∀ x,i=some x→Fits 10 0 x)∧Fits 11 0 v∧gI d r
 | d,.ifs _ v t e r=>Fits 11 0 v∧((0 < d∧gI (d - 1) t)∧0 < d∧gI (d - 1) e)∧gI d r
 | d,.dE _ v t r=>Fits 11 0 v∧(0 < d∧gI (d - 1) t)∧gI d r
 | d,.ret _ v r=>Fits 11 0 v∧gI d r
 | d,.dI _ v r=>Fits 11 0 v∧gI d r
 | d,.call _ v r=>(Fits 11 5 v ∧ ∃ p m n l,v = .app p m n l)∧gI d r
abbrev BQ (d:Nat) (s:S):Prop:=0 < d∧gI (d - 1) s
def yD:Option E→List (List UInt8)
 | some x=>[91] :: (toks x ++ [[93]])
 | none=>[]
def bH:S→List (List UInt8)
 | .nil=>[]
 | .set _ n i v r=>n :: (yD i ++ [58,61] :: (toks v ++ [59] :: bH r))
 | .ret _ v r=>[114,101,116,117,114,110] :: (toks v ++ [59] :: bH r)
 | .dI _ v r=>[119,114,105,116,101] :: (toks v ++ [59] :: bH r)
 | .call _ v r=>toks v ++ [59] :: bH r
 | .dE _ v t r=>[119,104,105,108,101] :: (toks v ++ [100,111] :: (bH t ++ [101,110,100] :: [59] :: bH r))
 | .ifs _ v t e r=>[105,102] :: (toks v ++ [116,104,101,110] :: (bH t ++ ((if e.isNil then [] else [101,108,115,101] :: bH e) ++ [101,110,100] :: [59] :: bH r)))
theorem yE : ∀ (d:Nat) (l s:S),gI d l→gI d s→gI d (l.app s)
 | _,.nil,_,_,h=>h
 | d,.set _ _ _ _ r,s,h,hs=>⟨h.1,h.2.1,h.2.2.1,yE d r s h.2.2.2 hs⟩
 | d,.ifs _ _ _ _ r,s,h,hs=>⟨h.1,h.2.1,yE d r s h.2.2 hs⟩
 | d,.dE _ _ _ r,s,h,hs=>⟨h.1,h.2.1,yE d r s h.2.2 hs⟩
 | d,.ret _ _ r,s,h,hs=>⟨h.1,yE d r s h.2 hs⟩
 | d,.dI _ _ r,s,h,hs=>⟨h.1,yE d r s h.2 hs⟩
 | d,.call _ _ r,s,h,hs=>⟨h.1,yE d r s h.2 hs⟩
theorem yF : ∀ (l s:S),bH (l.app s)=bH l ++ bH s
 | .nil,_=>rfl
 | .set _ _ _ _ r,s=>by simp [S.app,bH,yF r s]
 | .ifs _ _ _ _ r,s=>by simp [S.app,bH,yF r s]
 | .dE _ _ _ r,s=>by simp [S.app,bH,yF r s]
 | .ret _ _ r,s=>by simp [S.app,bH,yF r s]
 | .dI _ _ r,s=>by simp [S.app,bH,yF r s]
 | .call _ _ r,s=>by simp [S.app,bH,yF r s]
def JA {α:Type} (p:Ps α) (Q : α→Prop) (c : α→Nat):Prop:=∀ ts a r,Good ts→p ts = .ok a r→Q a∧c a + bytes r≤bytes ts + 1∧Good r
def wu (x:E × S × S):Nat:=(toks x.1).length + 1 + (bH x.2.1).length + (if x.2.2.isNil then 0 else (bH x.2.2).length + 1)
theorem Cz {z:Nat} {ts r:List Tok} {x:E} (hg:Good ts) (h : iA z ts = .ok x r):Fits 11 0 x∧(toks x).length + bytes r≤bytes ts∧Good r:=by
 obtain⟨h1,h2,h3⟩:=XJ z _ _ _ hg h;have:=(Jw h1).2;exact⟨h1,by omega,h3⟩
theorem XK (z d p:Nat):JA (first z p) (gI d) (fun s=>(bH s).length):=by
 intro ts a r hg h;rw [first] at h;cases hn : named z (expr z (one z 10) 5) ts with
 | bad e q=>simp only [hn] at h;cases h
 | ok e r1=>
  obtain⟨e1,e2,e3⟩:=Jy (d:=10) (FU (Jz z 10) 5 (Nat.le_refl _)) _ _ _ hg hn;have set : ∀ (n:List UInt8) (i:Option E),Nm n→(∀ x,i=some x→Fits 10 0 x)→1 + (yD i).length + bytes r1≤bytes ts →
    (match must z [58,61] r1 with | .bad e q=>R.bad e q | .ok _ r2=>match iA z r2 with | .bad e q=>.bad e q | .ok v r3=>.ok (.set p n i v .nil) r3)=R.ok a r→gI d a∧(bH a).length + bytes r≤bytes ts + 1∧Good r:=by
   intro n i hn hi hb h;cases hm : must z [58,61] r1 with
   | bad e q=>simp only [hm] at h;cases h
   | ok u r2=>
    have m1:=jU e3 hm;simp only [hm] at h;cases hx : iA z r2 with
    | bad e q=>simp only [hx] at h;cases h
    | ok v r3=>
     obtain⟨x1,x2,x3⟩:=Cz m1.2 hx;simp only [hx] at h;cases h
     refine⟨⟨hn,hi,x1,trivial⟩,?_,x3⟩;simp only [bH,List.length_cons,List.length_append,List.length_nil] at *;omega
  cases e with
  | app a2 m n l=>
   simp only [hn] at h;cases h
   refine⟨⟨⟨e1,_,_,_,_,rfl⟩,trivial⟩,?_,e3⟩;rw [gB,jT,if_pos (show 5≤lvl (E.app a2 m n l) from Nat.le_refl 5)] at e2;simp only [bH,List.length_append,List.length_cons,List.length_nil];omega
  | item a2 m n i=>
   simp only [hn] at h;split at h
   ·cases h
   ·rename_i hm
    have hm : m=[]:=Classical.not_not.mp hm;subst hm;have hd:=e1.2;rw [nJ,if_pos (show 5≤lvl (E.item a2 [] n i) from Nat.le_refl 5),need] at hd;rw [gB,jT,if_pos (show 5≤lvl (E.item a2 [] n i) from Nat.le_refl 5)] at e2;refine set n (some i) e1.1.1.2.1 ?_ ?_ h
    ·intro x hx;cases hx;exact⟨e1.1.1.2.2,by rw [nJ,if_pos (Nat.zero_le _)];omega⟩
    ·simp only [toks,oD,yD,if_true,List.length_append,List.length_cons,List.length_nil] at *;omega
  | var a2 m n=>
   simp only [hn] at h;split at h
   ·cases h
   ·rename_i hm
    have hm : m=[]:=Classical.not_not.mp hm;subst hm;rw [gB,jT,if_pos (show 5≤lvl (E.var a2 [] n) from Nat.le_refl 5)] at e2;refine set n none e1.1.1.2 (by intro x hx;cases hx) ?_ h;simp only [toks,oD,yD,if_true,List.length_cons,List.length_nil] at *;omega
  | num _ _=>simp only [hn] at h;cases h
  | un _ _ _=>simp only [hn] at h;cases h
  | bin _ _ _ _=>simp only [hn] at h;cases h
  | nil=>simp only [hn] at h;cases h
  | cons _ _=>simp only [hn] at h;cases h
abbrev RQ (d:Nat) (x:E × S × S):Prop:=Fits 11 0 x.1∧BQ d x.2.1∧BQ d x.2.2
theorem XL {z d:Nat} {bd:Ps S} {more:Ps (E × S × S)} (hb:Sp bd (BQ d) (fun s=>(bH s).length)) (hm:Sp more (fun x=>0 < d∧RQ (d - 1) x) wu):Sp (nH z bd more) (RQ d) wu:=by
 intro ts a r hg h;rw [nH] at h;cases h1 : iA z ts with
 | bad e q=>simp only [h1] at h;cases h
 | ok v r1=>
  obtain⟨a1,a2,a3⟩:=Cz hg h1;simp only [h1] at h;cases h2 : must z [116,104,101,110] r1 with
  | bad e q=>simp only [h2] at h;cases h
  | ok u r2=>
   have m1:=jU a3 h2;simp only [h2] at h;cases h3 : bd r2 with
   | bad e q=>simp only [h3] at h;cases h
   | ok t r3=>
    obtain⟨b1,b2,b3⟩:=hb _ _ _ m1.2 h3
    replace b2 : (bH t).length + bytes r3≤bytes r2:=b2
    simp only [h3] at h;split at h
    ·rename_i hs
     have hc:=jH b3 hs;cases h4 : more r3.tail with
     | bad e q=>simp only [h4] at h;cases h
     | ok x r4=>
      obtain⟨c1,c2,c3⟩:=hm _ _ _ hc.2 h4;simp only [h4] at h;cases h
      refine⟨⟨a1,b1,c1.1,c1.2.1,⟨c1.2.2.1,c1.2.2.2⟩,trivial⟩,?_,c3⟩;rw [wu] at c2 ⊢;have e1 : ((if x.2.2.isNil then [] else [101,108,115,101] :: bH x.2.2):List (List UInt8)).length=(if x.2.2.isNil then 0 else (bH x.2.2).length + 1):=by split <;> rfl
      simp only [bH,S.isNil,List.length_cons,List.length_append,List.length_nil,e1] at *;simp only [Bool.false_eq_true,if_false];omega
    ·split at h
     ·rename_i hs
      have hc:=jH b3 hs;cases h4 : bd r3.tail with
      | bad e q=>simp only [h4] at h;cases h
      | ok e2 r4=>
       obtain⟨c1,c2,c3⟩:=hb _ _ _ hc.2 h4
       replace c2 : (bH e2).length + bytes r≤bytes r3.tail:=by simp only [h4] at h;cases h;exact c2
       simp only [h4] at h;cases h
       refine⟨⟨a1,b1,c1⟩,?_,c3⟩;rw [wu];simp only [List.length_cons,List.length_nil] at *;split <;> omega
     ·cases h
      refine⟨⟨a1,b1,b1.1,trivial⟩,?_,b3⟩;rw [wu];simp only [S.isNil,if_true,List.length_cons,List.length_nil] at *;omega
theorem XM {z d:Nat} {bd:Ps S} {rest:Ps (E × S × S)} (hb:Sp bd (BQ d) (fun s=>(bH s).length)) (hr:Sp rest (RQ d) wu):JA (stmt z bd rest) (gI d) (fun s=>(bH s).length):=by
 intro ts a r hg h;rw [stmt] at h;split at h
 ·rename_i hs
  have hc:=jH hg hs;cases h1 : rest ts.tail with
  | bad e q=>simp only [h1] at h;cases h
  | ok x r1=>
   obtain⟨a1,a2,a3⟩:=hr _ _ _ hc.2 h1;simp only [h1] at h;cases h2 : must z [101,110,100] r1 with
   | bad e q=>simp only [h2] at h;cases h
   | ok u r2=>
    have m1:=jU a3 h2;simp only [h2] at h;cases h
    refine⟨⟨a1.1,⟨a1.2.1,a1.2.2⟩,trivial⟩,?_,m1.2⟩;rw [wu] at a2;have e1 : ((if x.2.2.isNil then [] else [101,108,115,101] :: bH x.2.2):List (List UInt8)).length=(if x.2.2.isNil then 0 else (bH x.2.2).length + 1):=by split <;> rfl
    simp only [bH,List.length_cons,List.length_append,List.length_nil,e1] at *;omega
 ·split at h
  ·rename_i hs
   have hc:=jH hg hs;cases h1 : iA z ts.tail with
   | bad e q=>simp only [h1] at h;cases h
   | ok v r1=>
    obtain⟨a1,a2,a3⟩:=Cz hc.2 h1;simp only [h1] at h;cases h2 : must z [100,111] r1 with
    | bad e q=>simp only [h2] at h;cases h
    | ok u r2=>
     have m1:=jU a3 h2;simp only [h2] at h;cases h3 : bd r2 with
     | bad e q=>simp only [h3] at h;cases h
     | ok t r3=>
      obtain⟨b1,b2,b3⟩:=hb _ _ _ m1.2 h3;simp only [h3] at h;cases h4 : must z [101,110,100] r3 with
      | bad e q=>simp only [h4] at h;cases h
      | ok u r4=>
       have m2:=jU b3 h4;simp only [h4] at h;cases h
       refine⟨⟨a1,b1,trivial⟩,?_,m2.2⟩;simp only [bH,List.length_cons,List.length_append,List.length_nil] at *;omega
  ·split at h
   ·rename_i hs
    have hc:=jH hg hs;cases h1 : iA z ts.tail with
    | bad e q=>simp only [h1] at h;cases h
    | ok v r1=>
     obtain⟨a1,a2,a3⟩:=Cz hc.2 h1;simp only [h1] at h;cases h
     refine⟨⟨a1,trivial⟩,?_,a3⟩;simp only [bH,List.length_cons,List.length_append,List.length_nil] at *;omega
   ·split at h
    ·rename_i hs
     have hc:=jH hg hs;cases h1 : iA z ts.tail with
     | bad e q=>simp only [h1] at h;cases h
     | ok v r1=>
      obtain⟨a1,a2,a3⟩:=Cz hc.2 h1;simp only [h1] at h;cases h
      refine⟨⟨a1,trivial⟩,?_,a3⟩;simp only [bH,List.length_cons,List.length_append,List.length_nil] at *;omega
    ·exact XK z d _ _ _ _ hg h
theorem OZ {z d:Nat} {st:Ps S} (hs:JA st (gI d) (fun s=>(bH s).length)) : ∀ (f:Nat) (l:S) (ts:List Tok) (a:S) (r:List Tok),Good ts→gI d l→aQ z st f l ts = .ok a r→gI d a∧(bH a).length + bytes r≤(bH l).length + bytes ts∧Good r
 | 0,_,_,_,_,_,_,h=>by cases h
 | f + 1,l,ts,a,r,hg,hl,h=>by
  rw [aQ] at h;split at h
  ·cases h;exact⟨hl,Nat.le_refl _,hg⟩
  ·cases h1 : st ts with
   | bad e q=>simp only [h1] at h;cases h
   | ok s r1=>
    obtain⟨a1,a2,a3⟩:=hs _ _ _ hg h1
    replace a2 : (bH s).length + bytes r1≤bytes ts + 1:=a2
    simp only [h1] at h;cases h2 : must z [59] r1 with
    | bad e q=>simp only [h2] at h;cases h
    | ok u r2=>
     have m1:=jU a3 h2;simp only [h2] at h;obtain⟨b1,b2,b3⟩:=OZ hs f _ _ _ _ m1.2 (yE d l s hl a1) h;rw [yF,List.length_append] at b2;simp only [List.length_cons,List.length_nil] at m1;exact⟨b1,by omega,b3⟩
theorem O0 (z:Nat) : ∀ d,Sp (bodies z d).1 (BQ d) (fun s=>(bH s).length)∧Sp (bodies z d).2 (fun x=>0 < d∧RQ (d - 1) x) wu
 | 0=>⟨fun ts a r _ h=>(by cases h),fun ts a r _ h=>(by cases h)⟩
 | d + 1=>by
  obtain⟨h1,h2⟩:=O0 z d;have hr:=XL (z:=z) h1 h2;refine⟨fun ts a r hg h=>?_,fun ts a r hg h=>?_⟩
  ·obtain⟨a1,a2,a3⟩:=OZ (XM (z:=z) h1 hr) _ .nil _ _ _ hg trivial h
   exact⟨⟨Nat.succ_pos _,a1⟩,by simpa [bH] using a2,a3⟩
  ·obtain⟨a1,a2,a3⟩:=hr _ _ _ hg h
   exact⟨⟨Nat.succ_pos _,a1⟩,a2,a3⟩
theorem XN (z:Nat):Sp (FI z) (gI 10) (fun s=>(bH s).length):=fun ts a r hg h=>by
 obtain⟨a1,a2,a3⟩:=(O0 z 11).1 ts a r hg h;exact⟨a1.2,a2,a3⟩
structure CB (g:bJ):Prop where
 name:Nm g.name
 low : 0≤g.len
 high : g.len≤30
structure Au (x:aX):Prop where
 name:Nm x.name
 params : ∀ n∈x.params,Nm n
 few : x.params.length≤10
 vars : ∀ n∈x.vars,Nm n
 room : x.vars.length≤10 - x.params.length
 body:gI 10 x.body
structure CE (m:Mod):Prop where
 name:Nm m.name
 imports : ∀ n∈m.imports,Nm n
 few : m.imports.length≤6
 vars : ∀ g∈m.vars,CB g
 oF : m.vars.length≤10
 procs : ∀ x∈m.procs,Au x
 tq : m.procs.length≤10
 body:gI 10 m.body
def yG:List (List UInt8)→List (List UInt8)
 | []=>[]
 | [n]=>[n]
 | n :: m :: r=>n :: [44] :: yG (m :: r)
def CF (b:Bool):List (List UInt8):=if b then [[42]] else []
def CG (g:bJ):List (List UInt8):=[118,97,114] :: g.name :: (CF g.seen ++ [58] :: ((if 0 < g.len then [[97,114,114,97,121],Lib.itoa g.len] else [[105,110,116]]) ++ [[59]]))
def CJ (s:List UInt8) (l:List (List UInt8)):List (List UInt8):=if l=[] then [] else s :: (yG l ++ [[59]])
def qP (x:aX):List (List UInt8):=[112,114,111,99] :: x.name :: (CF x.seen ++ [40] :: (yG x.params ++ [41] :: [59] :: (CJ [118,97,114] x.vars ++ [98,101,103,105,110] :: (bH x.body ++ [[101,110,100],[59]]))))
def Av (m:Mod):List (List UInt8):=[109,111,100,117,108,101] :: m.name :: [59] :: (CJ [105,109,112,111,114,116] m.imports ++ (m.vars.flatMap CG ++ (m.procs.flatMap qP ++ [98,101,103,105,110] :: (bH m.body ++ [[101,110,100],[46]]))))
theorem JB : ∀ (l:List (List UInt8)),l≠[]→(yG l).length + 1=2 * l.length
 | [n],_=>rfl
 | n :: m :: r,_=>by have:=JB (m :: r) (by simp);simp only [yG,List.length_cons] at *;omega
theorem O1 {s:List UInt8} {ts:List Tok} (hg:Good ts) (hs : s≠[]) : (CF (see s ts)).length + bytes (skip s ts)≤bytes ts∧Good (skip s ts):=by
 rw [skip];cases h : see s ts with
 | false=>simp [CF,hg]
 | true=>
  have:=jH hg h;have : 1≤s.length:=by cases s with|nil=>exact absurd rfl hs|cons _ _=>simp
  simp [CF]
  exact⟨by omega,(jH hg h).2⟩
theorem XO (z:Nat):Sp (kindOf z) (fun n=>0≤n∧n≤30) (fun n=>if 0 < n then 2 else 1):=by
 intro ts n r hg h;rw [kindOf] at h;split at h
 ·rename_i hs
  have hc:=jH hg hs;cases hn : number z 30 ts.tail with
  | bad e q=>simp only [hn] at h;cases h
  | ok n' r1=>
   obtain⟨a1,a2,a3⟩:=OO _ _ _ hc.2 hn
   replace a2 : 1 + bytes r1≤bytes ts.tail:=a2
   simp only [hn] at h;split at h
   ·cases h
   ·cases h
    refine⟨a1,?_,a3⟩;simp only [List.length_cons,List.length_nil] at hc
    show (if 0 < n then 2 else 1) + _≤_
    split <;> omega
 ·cases hm : must z [105,110,116] ts with
  | bad e q=>simp only [hm] at h;cases h
  | ok u r1=>
   have m1:=jU hg hm;simp only [hm] at h;cases h
   simp only [List.length_cons,List.length_nil] at m1;exact⟨⟨by omega,by omega⟩,by show 1 + _≤_;omega,m1.2⟩
theorem XP (z:Nat) : ∀ ts g r,Good ts→jl z ts = .ok g r→CB g∧(CG g).length + bytes r≤bytes ts + 1∧Good r:=by
 intro ts g r hg h;rw [jl] at h;cases h1 : name z ts with
 | bad e q=>simp only [h1] at h;cases h
 | ok n r1=>
  obtain⟨a1,a2,a3⟩:=Ar _ _ _ hg h1
  replace a2 : 1 + bytes r1≤bytes ts:=a2
  simp only [h1] at h;have hk:=O1 (s:=[42]) a3 (by simp);cases h2 : must z [58] (skip [42] r1) with
  | bad e q=>simp only [h2] at h;cases h
  | ok u r2=>
   have m1:=jU hk.2 h2;simp only [h2] at h;cases h3 : kindOf z r2 with
   | bad e q=>simp only [h3] at h;cases h
   | ok k r3=>
    obtain⟨b1,b2,b3⟩:=XO z _ _ _ m1.2 h3
    replace b2 : (if 0 < k then 2 else 1) + bytes r3≤bytes r2:=b2
    simp only [h3] at h;cases h4 : must z [59] r3 with
    | bad e q=>simp only [h4] at h;cases h
    | ok u r4=>
     have m2:=jU b3 h4;simp only [h4] at h;cases h
     refine⟨⟨a1,b1.1,b1.2⟩,?_,m2.2⟩;have e1 : ((if 0 < k then [[97,114,114,97,121],Lib.itoa k] else [[105,110,116]]):List (List UInt8)).length=if 0 < k then 2 else 1:=by split <;> rfl
     simp only [CG,List.length_cons,List.length_append,List.length_nil,e1] at *;omega
theorem O3 (z:Nat) : ∀ (f:Nat) (l:List bJ) (ts:List Tok) (a:List bJ) (r:List Tok),Good ts→(∀ g∈l,CB g)→l.length≤10→jS z f l ts = .ok a r→(∀ g∈a,CB g)∧a.length≤10∧(a.flatMap CG).length + bytes r≤(l.flatMap CG).length + bytes ts∧Good r
 | 0,_,_,_,_,_,_,_,h=>by cases h
 | f + 1,l,ts,a,r,hg,hl,hn,h=>by
  rw [jS] at h;split at h
  ·rename_i hs
   have hc:=jH hg hs;split at h
   ·cases h
   ·cases h1 : jl z ts.tail with
    | bad e q=>simp only [h1] at h;cases h
    | ok g r1=>
     obtain⟨a1,a2,a3⟩:=XP z _ _ _ hc.2 h1;simp only [h1] at h;obtain⟨b1,b2,b3,b4⟩:=O3 z f _ _ _ _ a3 (by
      intro x hx;rcases List.mem_append.mp hx with hx|hx
      ·exact hl x hx
      ·simp at hx;subst hx;exact a1) (by simp;omega) h
     refine⟨b1,b2,?_,b4⟩;simp only [List.flatMap_append,List.flatMap_cons,List.flatMap_nil,List.append_nil,List.length_append,List.length_cons,List.length_nil] at *;omega
  ·cases h;exact⟨hl,hn,Nat.le_refl _,hg⟩
theorem XQ (z:Nat) : ∀ ts l r,Good ts→params z ts = .ok l r→(∀ n∈l,Nm n)∧l.length≤10∧(yG l).length + 1 + bytes r≤bytes ts∧Good r:=by
 intro ts l r hg h;rw [params] at h;split at h
 ·rename_i hs
  have hc:=jH hg hs;cases h
  simp only [List.length_cons,List.length_nil] at hc;exact⟨by simp,by simp,by simp [yG];omega,hc.2⟩
 ·cases h1 : names z 10 ts with
  | bad e q=>simp only [h1] at h;cases h
  | ok l' r1=>
   obtain⟨a1,a2,a3,a4,a5⟩:=OQ hg h1;simp only [h1] at h;cases h2 : must z [41] r1 with
   | bad e q=>simp only [h2] at h;cases h
   | ok u r2=>
    have m1:=jU a5 h2;simp only [h2] at h;cases h
    have:=JB l a3;simp only [List.length_cons,List.length_nil] at m1;exact⟨a1,a2,by omega,m1.2⟩
theorem O4 {z most:Nat} {s:List UInt8} {ts:List Tok} {l:List (List UInt8)} {r:List Tok} (hs : s≠[]) (hg:Good ts) (h : (if see s ts then match names z most ts.tail with
  | .bad e p=>.bad e p
  | .ok l r=>match must z [59] r with
   | .bad e p=>.bad e p
   | .ok _ r2=>.ok l r2
 else R.ok [] ts) = .ok l r) : (∀ n∈l,Nm n)∧l.length≤most∧(CJ s l).length + bytes r≤bytes ts∧Good r:=by
 split at h
 ·rename_i h0
  have hc:=jH hg h0;have hl : 1≤s.length:=by cases s with|nil=>exact absurd rfl hs|cons _ _=>simp
  cases h1 : names z most ts.tail with
  | bad e q=>simp only [h1] at h;cases h
  | ok l' r1=>
   obtain⟨a1,a2,a3,a4,a5⟩:=OQ hc.2 h1;simp only [h1] at h;cases h2 : must z [59] r1 with
   | bad e q=>simp only [h2] at h;cases h
   | ok u r2=>
    have m1:=jU a5 h2;simp only [h2] at h;cases h
    have:=JB l a3;refine⟨a1,a2,?_,m1.2⟩;rw [CJ,if_neg a3];simp only [List.length_cons,List.length_append,List.length_nil] at *;omega
 ·cases h;exact⟨by simp,by simp,by simp [CJ],hg⟩
theorem O5 (z:Nat) {m:List UInt8} (hm : m.length=1) : ∀ ts b r,Good ts→block z m ts = .ok b r→gI 10 b∧(bH b).length + 3 + bytes r≤bytes ts∧Good r:=by
 intro ts b r hg h;rw [block] at h;cases h1 : must z [98,101,103,105,110] ts with
 | bad e q=>simp only [h1] at h;cases h
 | ok u r1=>
  have m1:=jU hg h1;simp only [h1] at h;cases h2 : FI z r1 with
  | bad e q=>simp only [h2] at h;cases h
  | ok s r2=>
   obtain⟨a1,a2,a3⟩:=XN z _ _ _ m1.2 h2
   replace a2 : (bH s).length + bytes r2≤bytes r1:=a2
   simp only [h2] at h;cases h3 : must z [101,110,100] r2 with
   | bad e q=>simp only [h3] at h;cases h
   | ok u r3=>
    have m2:=jU a3 h3;simp only [h3] at h;cases h4 : must z m r3 with
    | bad e q=>simp only [h4] at h;cases h
    | ok u r4=>
     have m3:=jU m2.2 h4;simp only [h4] at h;cases h
     simp only [List.length_cons,List.length_nil] at m1 m2 m3;exact⟨a1,by omega,m3.2⟩
theorem XR (z:Nat) : ∀ ts x r,Good ts→proc z ts = .ok x r→Au x∧(qP x).length + bytes r≤bytes ts∧Good r:=by
 intro ts x r hg h;rw [proc] at h;cases h1 : must z [112,114,111,99] ts with
 | bad e q=>simp only [h1] at h;cases h
 | ok u r1=>
  have m1:=jU hg h1;simp only [h1] at h;cases h2 : name z r1 with
  | bad e q=>simp only [h2] at h;cases h
  | ok n r2=>
   obtain⟨a1,a2,a3⟩:=Ar _ _ _ m1.2 h2
   replace a2 : 1 + bytes r2≤bytes r1:=a2
   simp only [h2] at h;have hk:=O1 (s:=[42]) a3 (by simp);cases h3 : must z [40] (skip [42] r2) with
   | bad e q=>simp only [h3] at h;cases h
   | ok u r3=>
    have m2:=jU hk.2 h3;simp only [h3] at h;cases h4 : params z r3 with
    | bad e q=>simp only [h4] at h;cases h
    | ok ps r4=>
     obtain⟨b1,b2,b3,b4⟩:=XQ z _ _ _ m2.2 h4;simp only [h4] at h;cases h5 : must z [59] r4 with
     | bad e q=>simp only [h5] at h;cases h
     | ok u r5=>
      have m3:=jU b4 h5;simp only [h5] at h;cases h6 : locals z (10 - ps.length) r5 with
      | bad e q=>simp only [h6] at h;cases h
      | ok vs r6=>
       obtain⟨c1,c2,c3,c4⟩:=O4 (s:=[118,97,114]) (by simp) m3.2 h6;simp only [h6] at h;cases h7 : block z [59] r6 with
       | bad e q=>simp only [h7] at h;cases h
       | ok b r7=>
        obtain⟨d1,d2,d3⟩:=O5 z rfl _ _ _ c4 h7;simp only [h7] at h;cases h
        refine⟨⟨a1,b1,b2,c1,c2,d1⟩,?_,d3⟩;simp only [qP,List.length_cons,List.length_append,List.length_nil] at *;omega
theorem O6 (z:Nat) : ∀ (f:Nat) (l:List aX) (ts:List Tok) (a:List aX) (r:List Tok),Good ts→(∀ g∈l,Au g)→l.length≤10→dV z f l ts = .ok a r→(∀ g∈a,Au g)∧a.length≤10∧(a.flatMap qP).length + bytes r≤(l.flatMap qP).length + bytes ts∧Good r
 | 0,_,_,_,_,_,_,_,h=>by cases h
 | f + 1,l,ts,a,r,hg,hl,hn,h=>by
  rw [dV] at h;split at h
  ·split at h
   ·cases h
   ·cases h1 : proc z ts with
    | bad e q=>simp only [h1] at h;cases h
    | ok g r1=>
     obtain⟨a1,a2,a3⟩:=XR z _ _ _ hg h1;simp only [h1] at h;obtain⟨b1,b2,b3,b4⟩:=O6 z f _ _ _ _ a3 (by
      intro x hx;rcases List.mem_append.mp hx with hx|hx
      ·exact hl x hx
      ·simp at hx;subst hx;exact a1) (by simp;omega) h
     refine⟨b1,b2,?_,b4⟩;simp only [List.flatMap_append,List.flatMap_cons,List.flatMap_nil,List.append_nil,List.length_append] at *;omega
  ·cases h;exact⟨hl,hn,Nat.le_refl _,hg⟩
theorem XT (z:Nat) : ∀ ts m r,Good ts→jE z ts = .ok m r→CE m∧(Av m).length + bytes r≤bytes ts∧Good r:=by
 intro ts m r hg h;rw [jE] at h;cases h1 : must z [109,111,100,117,108,101] ts with
 | bad e q=>simp only [h1] at h;cases h
 | ok u r1=>
  have m1:=jU hg h1;simp only [h1] at h;cases h2 : name z r1 with
  | bad e q=>simp only [h2] at h;cases h
  | ok n r2=>
   obtain⟨a1,a2,a3⟩:=Ar _ _ _ m1.2 h2
   replace a2 : 1 + bytes r2≤bytes r1:=a2
   simp only [h2] at h;cases h3 : must z [59] r2 with
   | bad e q=>simp only [h3] at h;cases h
   | ok u r3=>
    have m2:=jU a3 h3;simp only [h3] at h;cases h4 : imports z r3 with
    | bad e q=>simp only [h4] at h;cases h
    | ok is r4=>
     obtain⟨b1,b2,b3,b4⟩:=O4 (s:=[105,109,112,111,114,116]) (by simp) m2.2 h4;simp only [h4] at h;cases h5 : jS z 11 [] r4 with
     | bad e q=>simp only [h5] at h;cases h
     | ok vs r5=>
      obtain⟨c1,c2,c3,c4⟩:=O3 z _ _ _ _ _ b4 (by simp) (by simp) h5;simp only [h5] at h;cases h6 : dV z 11 [] r5 with
      | bad e q=>simp only [h6] at h;cases h
      | ok ps r6=>
       obtain⟨d1,d2,d3,d4⟩:=O6 z _ _ _ _ _ c4 (by simp) (by simp) h6;simp only [h6] at h;cases h7 : block z [46] r6 with
       | bad e q=>simp only [h7] at h;cases h
       | ok b r7=>
        obtain⟨e1,e2,e3⟩:=O5 z rfl _ _ _ d4 h7;simp only [h7] at h;cases h
        refine⟨⟨a1,b1,b2,c1,c2,d1,d2,e1⟩,?_,e3⟩;simp only [Av,List.length_cons,List.length_append,List.length_nil,List.flatMap_nil] at *;omega
theorem O7 {l:List UInt8} {m:Mod} (h : parse l = .ok m):CE m∧(Av m).length≤l.length:=by
 rw [parse] at h;cases hl : lex l with
 | bad e p=>simp only [hl] at h;cases h
 | ok ts=>
  have h1:=Ju _ _ _ _ _ hl;simp only [hl] at h;cases hm : jE l.length ts with
  | bad e p=>simp only [hm] at h;cases h
  | ok m' r=>
   obtain⟨a1,a2,_⟩:=XT _ _ _ _ h1.1 hm;simp only [hm] at h;cases r with
   | nil=>cases h;exact⟨a1,by omega⟩
   | cons t r=>cases h
end Go.Mq.Tree
namespace Go.Mq.Tree
open Go Go.RowKit Go.Mq
def yH:List (List UInt8)→List Tok→List Tok→Prop
 | [],ts,r=>ts=r
 | s :: K,ts,r=>∃ p ts',ts=⟨qO s,s,p⟩ :: ts'∧yH K ts' r
theorem XU : ∀ u:Nat,(∀ x∈Lib.decDigits u,digit x=true)∧Lib.decDigits u≠[]:=by
 intro u
 induction u using Nat.strongRecOn with
 | _ u ih=>
  have hd : ∀ v,v < 10→digit (UInt8.ofNat (48 + v))=true:=by decide
  rw [Lib.decDigits];split
  ·rename_i h;exact⟨by simpa using hd u h,by simp⟩
  ·refine⟨?_,by simp⟩
   intro x hx;rcases List.mem_append.mp hx with hx|hx
   ·exact(ih (u / 10) (by omega)).1 x hx
   ·rw [List.mem_singleton] at hx;subst hx;exact hd _ (by omega)
theorem O8 {M:Nat} : ∀ (l r:List UInt8) (acc a:Nat),Lib.parseUintM M acc l = .ok a→Lib.parseUintM M acc (l ++ r)=Lib.parseUintM M a r
 | [],r,acc,a,h=>by cases h;rfl
 | c :: l,r,acc,a,h=>by
  rw [List.cons_append,Lib.parseUintM];rw [Lib.parseUintM] at h;split at h
  ·rename_i h1
   rw [if_pos h1];split at h
   ·cases h
   ·rename_i h2
    rw [if_neg h2];split at h
    ·cases h
    ·rename_i h3
     rw [if_neg h3];exact O8 l r _ _ h
  ·cases h
theorem XV {M:Nat} (hM:M≤18446744073709551615) : ∀ u:Nat,u≤M→Lib.parseUintM M 0 (Lib.decDigits u) = .ok u:=by
 intro u
 induction u using Nat.strongRecOn with
 | _ u ih=>
  intro hu;have one : ∀ acc v,v < 10→acc * 10 + v≤M→Lib.parseUintM M acc [UInt8.ofNat (48 + v)] = .ok (acc * 10 + v):=by
   intro acc v hv ha;have hn : (UInt8.ofNat (48 + v)).toNat=48 + v:=by rw [UInt8.toNat_ofNat'];omega
   rw [Lib.parseUintM,hn,if_pos (by omega),if_neg (by omega),if_neg (by omega),Lib.parseUintM]
   congr 1;omega
  rw [Lib.decDigits];split
  ·rename_i h
   have:=one 0 u h (by omega)
   simpa using this
  ·rename_i h
   rw [O8 _ _ _ _ (ih (u / 10) (by omega) (by omega)),one _ _ (by omega) (by omega)]
   congr 1;omega
theorem O9 {n:Int} (h : 0≤n):Cw (Lib.itoa n):=by
 rw [Lib.itoa,if_neg (by omega)];have:=XU n.toNat;cases hd:Lib.decDigits n.toNat with
 | nil=>exact absurd hd this.2
 | cons c r=>
  rw [hd] at this;exact⟨c,r,rfl,this.1 c (by simp),fun x hx=>this.1 x (by simp [hx])⟩
theorem Pb {n:Int} (h : 0≤n) (h2 : n≤9223372036854775807):Lib.parseIntB 64 (Lib.itoa n) = .ok n:=by
 obtain⟨c,r,hc,hd,_⟩:=O9 h;have hp:Lib.parseUintM 18446744073709551615 0 (Lib.itoa n) = .ok n.toNat:=by
  rw [Lib.itoa,if_neg (by omega)];exact XV (Nat.le_refl _) _ (by omega)
 rw [hc] at hp ⊢;have hd:=Jr hd;have e : (c.toNat=45)=False:=by simp;omega
 have e2 : (c.toNat=43)=False:=by simp;omega
 unfold Lib.parseIntB
 simp only [e,e2,or_self,if_false,not_false_eq_true,true_and,false_and,Lib.parseUintB];rw [if_neg (by simp),show 2 ^ 64 - 1=18446744073709551615 from rfl,hp];simp only;rw [if_neg (by omega)]
 congr 1;omega
end Go.Mq.Tree
