/- Some texts in one. -/
import Derived.Defers
import Derived.Recover
import Derived.Test.YtechofppmnnomaaGreatDoorG1
import Derived.Test.YtechofppmnnomaaGreatDoorG8
import Derived.Test.YtechofppmnnomaaGreatDoorG9
namespace Go.Mq.Tree
open Go Go.RowKit Go.Mq
theorem prefix_eq (m l:List UInt8):Lib.hasPrefix l m=m.isPrefixOf l:=rfl
theorem nextK_letter {c:UInt8} {t:List UInt8} (h : letter c=true) : nextK (c :: t)=(.word,howN (fun c=>letter c || digit c) (c :: t)):=by rw [nextK,if_pos h]
theorem nextK_digit {c:UInt8} {t:List UInt8} (h : letter c=false) (h2 : digit c=true) : nextK (c :: t)=(.number,howN digit (c :: t)):=by rw [nextK,if_neg (by simp [h]),if_pos h2]
theorem nextK_mark {c:UInt8} {t:List UInt8} (h : letter c=false) (h2 : digit c=false) {m:List UInt8} (hm : marks.find? (fun m=>m.isPrefixOf (c :: t))=some m) : nextK (c :: t)=(.mark,m.length):=by
 rw [nextK,if_neg (by simp [h]),if_neg (by simp [h2]),hm];rfl
theorem nextK_none {c:UInt8} {t:List UInt8} (h : letter c=false) (h2 : digit c=false) (hm : marks.find? (fun m=>m.isPrefixOf (c :: t))=none) : nextK (c :: t)=(.mark,0):=by
 rw [nextK,if_neg (by simp [h]),if_neg (by simp [h2]),hm];rfl
end Go.Mq.Tree
namespace Go.Proofs.YtechofppmnnomaaGreatDoor
open Go Go.RowKit Go.Mq Go.Mq.Tree
set_option maxRecDepth 100000
set_option maxHeartbeats 4000000
theorem enters35 : ∀ (cs:Array Value) (w:World),(callFunc 106 cs).run Tryz.prog w = .ok (.enter 106 cs) w:=fun cs w=>by kernel_rfl
theorem enters36 : ∀ (cs:Array Value) (w:World),(callFunc 107 cs).run Tryz.prog w = .ok (.enter 107 cs) w:=fun cs w=>by kernel_rfl
theorem next_any (c:UInt8) (t:List UInt8) (hl : (c :: t).length≤1099511627776) (w:World) (B:Nat) (hL:Laid w B) :
  Calls Tryz.prog 68 #[str (c :: t)] w (fun e w'=>e = .returned (.tuple #[.int .i64 (nextK (c :: t)).1.num,.int .i64 (nextK (c :: t)).2])∧w'=w):=by
 have HLE:=zh (letter_any c w);have HDI:=zh (digit_any c w);have HRW:=zh (run_any (fun c=>letter c || digit c) 106 enters35 w (fun c=>alnum_any c w) (c :: t) hl);have HRD:=zh (run_any digit 107 enters36 w (fun c=>digit_any c w) (c :: t) hl);obtain⟨s,hs⟩ : ∃ s,s=bs (c :: t):=⟨_,rfl⟩
 have hidx:=run_index_str (P:=Tryz.prog) Tryz.underlying9 (k:=0) (c:=c) (show s[0]?=some c by rw [hs,bs_get];rfl);have hidx : ∀ w,(Instr.index 9 (.string s) (.int .i64 0)).run Tryz.prog w = .ok (.int .u8 c.toNat) w:=hidx
 have hsz : s.size=t.length + 1:=by rw [hs];rfl
 have HS:=zh hs
 show Calls Tryz.prog 68 #[.string (bs (c :: t))] w _
 have HRW:Hid (Calls Tryz.prog 105 #[.string s,.func (.func 106) #[] #[]] w (fun e w'=>e = .returned (.int .i64 (howN (fun c=>letter c || digit c) (c :: t)))∧w'=w)):=by rw [hs];exact HRW
 have HRD:Hid (Calls Tryz.prog 105 #[.string s,.func (.func 107) #[] #[]] w (fun e w'=>e = .returned (.int .i64 (howN digit (c :: t)))∧w'=w)):=by rw [hs];exact HRD
 rw [← hs];clear hs;obtain⟨n,hn⟩ : ∃ n:Nat,n=c.toNat:=⟨_,rfl⟩
 rw [← hn] at hidx HLE HDI;clear hn;cases h1 : letter c with
 | true=>
  have HRR:=zh (nextK_letter (t:=t) h1);rw [h1] at HLE;clear h1
  go_enter Tryz.func68,Tryz.ntmps68
  go_wp2_with fail;refine HLE.out.mono ?_;rintro _ w2 ⟨rfl,hw⟩;have hw:=hw.symm;subst hw;go_wp2_with fail;refine HRW.out.mono ?_;rintro _ w2 ⟨rfl,hw⟩;have hw:=hw.symm;subst hw;go_wp2_with fail;go_ret2
  rw [HRR.out];exact⟨rfl,rfl⟩
 | false=>
  rw [h1] at HLE;cases h2 : digit c with
  | true=>
   have HRR:=zh (nextK_digit (t:=t) h1 h2);rw [h2] at HDI;clear h1 h2
   go_enter Tryz.func68,Tryz.ntmps68
   go_wp2_with fail;refine HLE.out.mono ?_;rintro _ w2 ⟨rfl,hw⟩;have hw:=hw.symm;subst hw;go_wp2_with fail;refine HDI.out.mono ?_;rintro _ w2 ⟨rfl,hw⟩;have hw:=hw.symm;subst hw;go_wp2_with fail;refine HRD.out.mono ?_;rintro _ w2 ⟨rfl,hw⟩;have hw:=hw.symm;subst hw;go_wp2_with fail;go_ret2
   rw [HRR.out];exact⟨rfl,rfl⟩
  | false=>
   have HM:Hid (∀ m,marks.find? (fun m=>m.isPrefixOf (c :: t))=some m→nextK (c :: t)=(.mark,m.length)):=zh (fun m hm=>nextK_mark h1 h2 hm);have HN:Hid (marks.find? (fun m=>m.isPrefixOf (c :: t))=none→nextK (c :: t)=(.mark,0)):=zh (fun hm=>nextK_none h1 h2 hm);rw [h2] at HDI;clear h1 h2;have d0:=hL.marks 0 _ rfl;have d1:=hL.marks 1 _ rfl;have d2:=hL.marks 2 _ rfl;have d3:=hL.marks 3 _ rfl;have d4:=hL.marks 4 _ rfl;have d5:=hL.marks 5 _ rfl;have d6:=hL.marks 6 _ rfl;have d7:=hL.marks 7 _ rfl;have d8:=hL.marks 8 _ rfl;have d9:=hL.marks 9 _ rfl;have d10:=hL.marks 10 _ rfl;have d11:=hL.marks 11 _ rfl;have d12:=hL.marks 12 _ rfl;have d13:=hL.marks 13 _ rfl;have d14:=hL.marks 14 _ rfl;have d15:=hL.marks 15 _ rfl;have d16:=hL.marks 16 _ rfl;have d17:=hL.marks 17 _ rfl;have hml : marks.length=18:=rfl
   go_enter Tryz.func68,Tryz.ntmps68
   go_wp2_with fail;refine HLE.out.mono ?_;rintro _ w2 ⟨rfl,hw⟩;have hw:=hw.symm;subst hw;go_wp2_with fail;refine HDI.out.mono ?_;rintro _ w2 ⟨rfl,hw⟩;have hw:=hw.symm;subst hw;go_wp2_with fail;clear d0 d1 d2 d3 d4 d5 d6 d7 d8 d9 d10 d11 d12 d13 d14 d15 d16 d17
   go_loopw [5,19] (fun _ i wr=>∃ k:Nat,k≤18∧i = .int .i64 k∧wr=w∧marks.find? (fun m=>m.isPrefixOf (c :: t))=(marks.drop k).find? (fun m=>m.isPrefixOf (c :: t))) (fun _ i _=>20 - (intOf i).toNat)
   case atStart=>exact⟨0,Nat.zero_le _,rfl,rfl,rfl⟩
   case round=>
    obtain⟨k,hk,rfl,rfl,hr⟩:=hrel;have HR:=zh hr;clear hr;by_cases hlt : k < 18
    ·have hmi:=marks_index k hlt
     have HX:=zh (Any.strings_HasPrefix Tryz.lays99 s (bs (marks.getD k [])) wr);have hm : marks[k]?=some (marks.getD k []):=by rw [List.getD_eq_getElem?_getD,List.getElem?_eq_getElem (by omega)];rfl
     have hdr : marks.drop k=marks.getD k [] :: marks.drop (k + 1):=by
      rw [List.drop_eq_getElem_cons (by omega)]
      congr 1
      rw [List.getElem?_eq_getElem (by omega)] at hm;exact Option.some.inj hm
     have HDR:=zh hdr;have hml9 : (marks.getD k []).length≤2:=by
      have : ∀ m∈marks,m.length≤2:=by decide
      exact this _ (List.mem_of_getElem? hm)
     obtain⟨m,hmm⟩ : ∃ m,m=marks.getD k []:=⟨_,rfl⟩
     rw [← hmm] at hmi HX HDR hml9;have HX:Hid (Calls Tryz.prog 108 #[.string s,str m] wr (fun e w'=>e = .returned (.bool (m.isPrefixOf (c :: t)))∧w'=wr)):=zh (by
      have:=HX.out;rw [HS.out,prefix_eq] at this;rw [HS.out];exact this)
     clear hm hdr hmm;cases hp : m.isPrefixOf (c :: t) with
     | true=>
      have HRR:=zh (HM.out m (by rw [HR.out,HDR.out,List.find?_cons,hp]));rw [hp] at HX;clear hp;go_wp2_with fail;refine HX.out.mono ?_;rintro _ w2 ⟨rfl,hw⟩;have hw:=hw.symm;subst hw;go_wp2_with fail;go_ret2
      rw [HRR.out];exact⟨rfl,rfl⟩
     | false=>
      have HRR:=zh (show marks.find? (fun m=>m.isPrefixOf (c :: t))=(marks.drop (k + 1)).find? (fun m=>m.isPrefixOf (c :: t)) by rw [HR.out,HDR.out,List.find?_cons,hp]);rw [hp] at HX;clear hp;go_wp2_with fail;refine HX.out.mono ?_;rintro _ w2 ⟨rfl,hw⟩;have hw:=hw.symm;subst hw;go_wp2_with fail;exact⟨⟨k + 1,by omega,by go_num,by first|rfl|trivial,HRR.out⟩,by simp [intOf];omega⟩
    ·have hge : k=18:=by omega
     have HRR:=zh (HN.out (by rw [HR.out,hge];rfl));go_wp2_with fail;go_ret2
     rw [HRR.out];exact⟨rfl,rfl⟩
end Go.Proofs.YtechofppmnnomaaGreatDoor
namespace Go.Mq.Tree
open Go Go.RowKit Go.Mq
theorem howN_le (f:UInt8→Bool) : ∀ l:List UInt8,howN f l≤l.length:=by
 intro l
 induction l with
 | nil=>exact Nat.le_refl _
 | cons c t ih=>rw [howN];split <;> simp <;> omega
theorem nextK_le (l:List UInt8) : (nextK l).2≤l.length:=by
 cases l with
 | nil=>exact Nat.le_refl _
 | cons c t=>
  rw [nextK];split
  ·exact howN_le _ _
  ·split
   ·exact howN_le _ _
   ·cases h : marks.find? (fun m=>m.isPrefixOf (c :: t)) with
    | none=>simp
    | some m=>
     have:=List.find?_some h;have:=(List.isPrefixOf_iff_prefix.1 this).length_le
     simpa using this
theorem gap_eq (c:UInt8) : gap c=(((c.toNat:Int) == 32) || ((c.toNat:Int) == 10)):=by
 have h1 : (c == 32)=((c.toNat:Int) == 32):=by
  by_cases h : c=32
  ·subst h;rfl
  ·have : c.toNat≠32:=fun h2=>h (UInt8.toNat_inj.1 (by rw [h2];rfl))
   rw [beq_eq_false_iff_ne.2 h]
   symm
   simp;omega
 have h2 : (c == 10)=((c.toNat:Int) == 10):=by
  by_cases h : c=10
  ·subst h;rfl
  ·have : c.toNat≠10:=fun h2=>h (UInt8.toNat_inj.1 (by rw [h2];rfl))
   rw [beq_eq_false_iff_ne.2 h]
   symm
   simp;omega
 rw [gap,h1,h2]
def LexR.ahead (acc:List Tok):LexR→LexR
 | .ok ts=>.ok (acc ++ ts)
 | .bad e p=>.bad e p
theorem lexL_nil (f i k:Nat) : lexL f i k [] = .ok []:=by cases f <;> rfl
theorem lexL_gap {f i k:Nat} {c:UInt8} {t:List UInt8} (h : gap c=true) : lexL (f + 1) i k (c :: t)=lexL f (i + 1) k t:=by simp only [lexL,h,if_true]
theorem lexL_none {f i k:Nat} {c:UInt8} {t:List UInt8} (h : gap c=false) (h2 : (nextK (c :: t)).2=0) : lexL (f + 1) i k (c :: t) = .bad 3 i:=by simp [lexL,h,h2]
theorem lexL_many {f i:Nat} {c:UInt8} {t:List UInt8} (h : gap c=false) (h2 : (nextK (c :: t)).2≠0) : lexL (f + 1) i 600 (c :: t) = .bad 4 i:=by simp [lexL,h,h2]
theorem lexL_tok {f i k:Nat} {c:UInt8} {t:List UInt8} (h : gap c=false) (h2 : (nextK (c :: t)).2≠0) (h3 : k≠600) (acc:List Tok) :
  (lexL (f + 1) i k (c :: t)).ahead acc=(lexL f (i + (nextK (c :: t)).2) (k + 1) ((c :: t).drop (nextK (c :: t)).2)).ahead (acc ++ [⟨(nextK (c :: t)).1,(c :: t).take (nextK (c :: t)).2,i⟩]):=by
 simp only [lexL,h,h2,h3,if_false,Bool.false_eq_true];cases lexL f (i + (nextK (c :: t)).2) (k + 1) ((c :: t).drop (nextK (c :: t)).2) with
 | ok ts=>simp [LexR.ahead]
 | bad e p=>rfl
def LexOut (w:World) (z:Nat) (r:LexR) (e:Ending) (w':World):Prop:=Chg [] w w'∧match r with
 | .ok ts=>∃ a c,e = .returned (.tuple #[.slice a (ts.length + 1) c,.nilIface])∧ts.length + 1≤c∧Row w' (New w w') a (toksCells z ts)∧ts.length≤600 ∧ ∀ t∈ts,t.text.length≤1099511627776
 | .bad en p=>∃ b,e = .returned (.tuple #[nils,.iface 140 (ptr b)])∧w.heap.size≤b∧Blk w' b #[.int .i64 en,.int .i64 p] 142
theorem toksCells_eq (z:Nat) : ∀ ts:List Tok,toksCells z ts=ts.flatMap Tok.cells ++ [.int .i64 4,str [],.int .i64 z]:=by
 intro ts
 induction ts with
 | nil=>rfl
 | cons t r ih=>rw [toksCells,ih,List.flatMap_cons,List.append_assoc]
end Go.Mq.Tree
namespace Go.Proofs.YtechofppmnnomaaGreatDoor
open Go Go.RowKit Go.Mq Go.Mq.Tree
set_option maxRecDepth 100000
set_option maxHeartbeats 8000000
theorem infoTok : (Tryz.prog.info? 91).map (fun i=>(i.zero,i.size,i.bytes))=some (some (.agg #[.int .i64 0,.string ⟨#[]⟩,.int .i64 0]),3,32):=by kernel_rfl
theorem tokens_any (l:List UInt8) (hl : l.length≤1099511627776) (w:World) (B:Nat) (hL:Laid w B):Calls Tryz.prog 34 #[str l] w (LexOut w l.length (lex l)):=by
 obtain⟨s,hs⟩ : ∃ s,s=bs l:=⟨_,rfl⟩
 have hsz : s.size=l.length:=by rw [hs];rfl
 have HS:=zh hs;have HL:=zh hL
 show Calls Tryz.prog 34 #[.string (bs l)] w _
 rw [← hs];clear hs hL
 go_enter Tryz.func34,Tryz.ntmps34
 go_wp2_with fail
 go_loopw [4,5,6,7] (fun lv iv _ _ wr=>∃ (f i:Nat) (acc:List Tok),iv = .int .i64 i∧i≤l.length∧lex l=(lexL f i acc.length (l.drop i)).ahead acc∧l.length - i≤f∧acc.length≤600∧(∀ t∈acc,t.text.length≤1099511627776) ∧
   wr.ownsRow 0 91 3 lv acc.length (acc.flatMap Tok.cells)∧From w.heap.size lv∧Chg [] w wr) (fun _ iv _ _ _=>l.length - (intOf iv).toNat)
 case atStart=>exact⟨l.length,0,[],rfl,Nat.zero_le _,by rw [List.drop_zero,lex];cases lexL l.length 0 0 l <;> rfl,Nat.sub_le _ _,Nat.zero_le _,fun _ h=>(by cases h),World.ownsRow_nil _ _ _ _,From.nil _,Chg.refl _ _⟩
 case round=>
  obtain⟨f,i,acc,rfl,hi,hr,hf,ha,hsh,ho,hF,hC⟩:=hrel;have HR:=zh hr;have HSH:=zh hsh;have HO:=zh ho;have HF:=zh hF;have HC:=zh hC;obtain⟨sa,sc,hsl⟩:=slice_of_owns ho;have hsw:=hC.size;clear hr hsh ho hF hC;subst hsl;by_cases hlt : i < l.length
  ·have hdec : decide ((i:Int) < (s.size:Int))=true:=by simp;omega
   obtain⟨c,hcc⟩ : ∃ c,l[i]?=some c:=⟨l[i],List.getElem?_eq_getElem hlt⟩
   have hdrop : l.drop i=c :: l.drop (i + 1):=by
    rw [List.drop_eq_getElem_cons hlt]
    congr 1
    rw [List.getElem?_eq_getElem hlt] at hcc;exact Option.some.inj hcc
   obtain⟨f,rfl⟩ : ∃ f',f=f' + 1:=⟨f - 1,by omega⟩
   have hidx:=run_index_str (P:=Tryz.prog) Tryz.underlying9 (show s[i]?=some c by rw [HS.out,bs_get];exact hcc);have HD:=zh hdrop;have HBE:=zh (gap_eq c);obtain⟨n0,hn0⟩ : ∃ n:Nat,n=c.toNat:=⟨_,rfl⟩
   rw [← hn0] at hidx HBE;clear hn0 hcc hdrop;cases hb : gap c with
   | true=>
    have HRR:=zh (show lex l=(lexL f (i + 1) acc.length (l.drop (i + 1))).ahead acc by rw [HR.out,HD.out,lexL_gap hb]);rw [hb] at HBE;clear hb;cases h1 : ((n0:Int) == 32) with
    | true=>
     clear HBE;go_wp2_with fail;exact⟨⟨f,i + 1,acc,by go_num,by omega,HRR.out,by omega,ha,HSH.out,HO.out,HF.out,HC.out⟩,by simp [intOf];omega⟩
    | false=>
     have h2 : ((n0:Int) == 10)=true:=by have:=HBE.out;rw [h1] at this;simpa using this.symm
     clear HBE;go_wp2_with fail;exact⟨⟨f,i + 1,acc,by go_num,by omega,HRR.out,by omega,ha,HSH.out,HO.out,HF.out,HC.out⟩,by simp [intOf];omega⟩
   | false=>
    have hbe:=HBE.out;rw [hb] at hbe;obtain⟨h1,h2⟩:=Bool.or_eq_false_iff.1 hbe.symm;clear hbe;clear HBE;have hE1 : s.extract i l.length=bs (c :: l.drop (i + 1)):=by rw [HS.out,bs_extract,← HD.out];congr 2;exact List.take_of_length_le (by simp)
    have hlen : (c :: l.drop (i + 1)).length=l.length - i:=by rw [← HD.out];simp
    have HNX:=zh (next_any c (l.drop (i + 1)) (by rw [hlen];omega) wr B (HL.out.kept HC.out (by simp)));have HLT:Hid (nextK (c :: l.drop (i + 1))=nextK (c :: l.drop (i + 1))):=zh rfl;have hnl:=nextK_le (c :: l.drop (i + 1));rw [hlen] at hnl;obtain⟨kd,hkd⟩ : ∃ kd:Nat,kd=(nextK (c :: l.drop (i + 1))).1.num:=⟨_,rfl⟩
    obtain⟨n,hn⟩ : ∃ n,n=(nextK (c :: l.drop (i + 1))).2:=⟨_,rfl⟩
    have HKD:=zh hkd;have HN:=zh hn;rw [← hkd,← hn] at HNX;rw [← hn] at hnl;have HNX:Hid (Calls Tryz.prog 68 #[.string (s.extract i l.length)] wr (fun e w'=>e = .returned (.tuple #[.int .i64 kd,.int .i64 n])∧w'=wr)):=zh (by rw [hE1];exact HNX.out);have HB:=zh hb;have HNZ:Hid (n=0→lex l = .bad 3 i):=zh (fun h0=>by rw [HR.out,HD.out,lexL_none hb (by rw [← hn,h0])];rfl);have HNM:Hid (n≠0→acc.length=600→lex l = .bad 4 i):=zh (fun h0 h6=>by rw [HR.out,HD.out,h6,lexL_many hb (by rw [← hn];exact h0)];rfl);have HNT:Hid (∀ tx,s.extract i (i + n)=bs tx→n≠0→acc.length≠600→lex l=(lexL f (i + n) (acc.length + 1) (l.drop (i + n))).ahead (acc ++ [⟨(nextK (c :: l.drop (i + 1))).1,tx,i⟩])):=zh (fun tx htx h0 h6=>by
     rw [HR.out,HD.out,lexL_tok hb (by rw [← hn];exact h0) h6,← hn,← HD.out,List.drop_drop];have htx' : tx=(l.drop i).take n:=by
      rw [HS.out,bs_extract,Nat.add_sub_cancel_left] at htx;have h9:=ByteArray.mk.inj htx;exact(by simpa using congrArg Array.toList h9.symm)
     rw [htx'])
    clear hkd hn hb hE1 HLT;by_cases h0 : n=0
    ·have hz : ((n:Int) == 0)=true:=by simp [h0]
     have HRR:=zh (HNZ.out h0);clear h0;go_wp2_with fail;refine HNX.out.mono ?_;rintro _ w2 ⟨rfl,hw⟩;have hw:=hw.symm;subst hw;go_wp2_with fail;go_ret2
     rw [HRR.out];exact⟨HC.out.alloc _,_,rfl,hsw,Blk.new _ _ _⟩
    ·have hz : ((n:Int) == 0)=false:=by simp [h0]
     by_cases h6 : acc.length=600
     ·have h6' : ((acc.length:Int) == 600)=true:=by simp [h6]
      have HRR:=zh (HNM.out h0 h6);clear h0 h6;go_wp2_with fail;refine HNX.out.mono ?_;rintro _ w2 ⟨rfl,hw⟩;have hw:=hw.symm;subst hw;go_wp2_with fail;go_ret2
      rw [HRR.out];exact⟨HC.out.alloc _,_,rfl,hsw,Blk.new _ _ _⟩
     ·have h6' : ((acc.length:Int) == 600)=false:=by simp;omega
      have HTX:=zh (HNT.out ((l.drop i).take n) (by rw [HS.out,bs_extract,Nat.add_sub_cancel_left]) h0 h6);have HEX:=zh (show s.extract i (i + n)=bs ((l.drop i).take n) by rw [HS.out,bs_extract,Nat.add_sub_cancel_left]);have htl : ((l.drop i).take n).length≤1099511627776:=by simp;omega
      have HO2:=zh (owns_kept HO.out ((Chg.refl [] wr).alloc (.cells #[.int .i64 kd,.string (s.extract i (i + n)),.int .i64 i] 91)) (by simp));go_wp2_with fail;refine HNX.out.mono ?_;rintro _ w2 ⟨rfl,hw⟩;have hw:=hw.symm;subst hw;go_wp2_with (at_builtin;go_must (refine wpL_append rfl _ _ 83 rfl 91 _ 3 32 infoTok Tryz.underlying83 rfl (by decide) _ _ _ rfl HO2.out ⟨wr.heap.size,0,none⟩ 1 1 [.int .i64 kd,.string (s.extract i (i + n)),.int .i64 i] rfl rfl (cells_new _ _ _) (by simp [Value.oneCell']) ?_ ?_ ?_))
      ·omega
      ·unfold maxLen;omega
      ·intro v' w' hown' hch' hmv'
       have HO':=zh hown';have HF':=zh (HF.out.moved hmv' (by simp;omega));have HC':=zh ((HC.out.alloc (.cells #[.int .i64 kd,.string (s.extract i (i + n)),.int .i64 i] 91)).trans hch' (fun x hx=>.inr (HF.out x hx)));clear hown' hch' hmv';go_wp2_with fail;refine⟨⟨f,i + n,acc ++ [⟨(nextK (c :: l.drop (i + 1))).1,(l.drop i).take n,i⟩],by go_num,by omega,by simpa using HTX.out,by omega,by simp;omega,?_,?_,HF'.out,HC'.out⟩,by simp [intOf];omega⟩
       ·intro t ht
        rcases List.mem_append.1 ht with h|h
        ·exact HSH.out t h
        ·simp at h;rw [h];exact htl
       ·have:=HO'.out
        rw [HEX.out,HKD.out] at this
        simpa [Tok.cells] using this
  ·have hdec : decide ((i:Int) < (s.size:Int))=false:=by simp;omega
   have HRR:=zh (show lex l = .ok acc by rw [HR.out,List.drop_eq_nil_of_le (by omega),lexL_nil];simp [LexR.ahead]);have HO2:=zh (owns_kept HO.out ((Chg.refl [] wr).alloc (.cells #[.int .i64 4,str [],.int .i64 l.length] 91)) (by simp));go_wp2_with (at_builtin;go_must (refine wpL_append rfl _ _ 83 rfl 91 _ 3 32 infoTok Tryz.underlying83 rfl (by decide) _ _ _ rfl HO2.out ⟨wr.heap.size,0,none⟩ 1 1 [.int .i64 4,str [],.int .i64 l.length] rfl rfl (cells_new _ _ _) (by simp [Value.oneCell']) ?_ ?_ ?_))
   ·omega
   ·unfold maxLen;omega
   ·intro v' w' hown' hch' hmv'
    have HO':=zh hown';have hF':=HF.out.moved hmv' (by simp;omega);have HF':=zh hF';have HC':=zh ((HC.out.alloc (.cells #[.int .i64 4,str [],.int .i64 l.length] 91)).trans hch' (fun x hx=>.inr (HF.out x hx)));clear hown' hch' hmv' hF';go_wp2_with fail;go_ret2
    rw [HRR.out];obtain⟨a,k,rfl,hk,hrow⟩:=Row.of_owns HO'.out (new_owns HO'.out HF'.out);refine⟨HC'.out,a,k,rfl,hk,?_,ha,HSH.out⟩;rw [toksCells_eq];exact hrow
end Go.Proofs.YtechofppmnnomaaGreatDoor
namespace Go.Proofs.YtechofppmnnomaaGreatDoor
open Go Go.RowKit Go.Mq Go.Mq.Tree
set_option maxRecDepth 100000
set_option maxHeartbeats 8000000
theorem catch_idle (bm be:Nat) (w:World):CallsD Tryz.prog 33 #[ptr bm,ptr be] .returning w fun e u' w'=>
   e = .returned (.tuple #[])∧u' = .returning∧w'=w:=by
 refine callsD_of_wpS Tryz.func33 rfl fun c₀ cs hu=>?_
 rw [show (#[ptr bm,ptr be] ++ Array.replicate (Tryz.f33.ntmps - (#[ptr bm,ptr be] : Array Value).size) undef:Array Value) = #[ptr bm,ptr be,undef,undef,undef,undef,undef,undef,undef,undef,undef,undef,undef,undef,undef,undef,undef,undef,undef] from rfl]
 apply wpS_seq
 apply wpS_region
 simp [wpOpsS,go_sem,recoverD,hu,Exit.thenS]
 refine wpS_of_wp ?_;go_wp2_with fail;exact⟨rfl,.returning,by cases c₀;simp_all,.tuple #[],results_none rfl _ _ _,rfl,rfl,rfl⟩
theorem catch_thrown (bm be b:Nat) (c0 c1 c2 c3 c4 e0:Value) (w:World) (hm:Blk w bm #[c0,c1,c2,c3,c4] 32) (he:Blk w be #[e0] 34) (hne : bm≠be) :
  CallsD Tryz.prog 33 #[ptr bm,ptr be] (.panicking [{ v:=.iface 81 (.agg #[.iface 140 (ptr b)]),recovered:=false }]) w fun e u' w'=>
   e = .returned (.tuple #[])∧u' = .panicking [{ v:=.iface 81 (.agg #[.iface 140 (ptr b)]),recovered:=true }]∧Chg [bm,be] w w' ∧
   Blk w' bm #[str [],nils,nils,nils,nils] 32∧Blk w' be #[.iface 140 (ptr b)] 34:=by
 have hta : ∀ w,(Instr.typeAssert (.iface 81 (.agg #[.iface 140 (ptr b)])) 20 81 true).run Tryz.prog w = .ok (.tuple #[.agg #[.iface 140 (ptr b)],.bool true]) w:=fun _=>rfl
 refine callsD_of_wpS Tryz.func33 rfl fun c₀ cs hu=>?_
 rw [show (#[ptr bm,ptr be] ++ Array.replicate (Tryz.f33.ntmps - (#[ptr bm,ptr be] : Array Value).size) undef:Array Value) = #[ptr bm,ptr be,undef,undef,undef,undef,undef,undef,undef,undef,undef,undef,undef,undef,undef,undef,undef,undef,undef] from rfl]
 apply wpS_seq
 apply wpS_region
 simp [wpOpsS,go_sem,recoverD,hu,Exit.thenS]
 refine wpS_of_wp ?_;go_wp2_with fail;have hlm:=hm.lt;have hle:=he.lt;have hm':=hm.kept ((Chg.refl [] w).alloc (.cells #[.iface 140 (ptr b)] 81)) (by simp);have he':=he.kept ((Chg.refl [] w).alloc (.cells #[.iface 140 (ptr b)] 81)) (by simp);have hx':=Blk.new w #[.iface 140 (ptr b)] 81;have hc':Chg [bm,be] w (w.alloc (.cells #[.iface 140 (ptr b)] 81)):=(Chg.refl _ w).alloc _;have hnx : w.heap.size≠bm:=by omega
 have hny : w.heap.size≠be:=by omega
 generalize w.alloc (.cells #[.iface 140 (ptr b)] 81)=w1 at *
 have f0:=hm'.frozen 0;have f1:=hm'.frozen 1;have f2:=hm'.frozen 2;have f3:=hm'.frozen 3;have f4:=hm'.frozen 4;have d0:=hm'.cell 0 _ rfl;have d1:=hm'.cell 1 _ rfl;have d2:=hm'.cell 2 _ rfl;have d3:=hm'.cell 3 _ rfl;have d4:=hm'.cell 4 _ rfl;have g0:=he'.frozen 0;have e0':=he'.cell 0 _ rfl;have x0:=hx'.cell 0 _ rfl;have HM:=zh hm';have HE:=zh he';have HC:=zh hc';clear hm he hm' he' hx' hc' hta
 go_region
 obtain⟨wF,hwF,hcF,hbF⟩:=set5 (str []) nils nils nils nils HM.out;have heF:=HE.out.kept hcF (by simp;exact Ne.symm hne);have hcE:Chg [be] wF (wF.setCell ⟨be,0,none⟩ (.iface 140 (ptr b))):=Chg.set1 _ _ _ _;refine⟨rfl,.panicking [{ v:=.iface 81 (.agg #[.iface 140 (ptr b)]),recovered:=true }],rfl,.tuple #[],results_none rfl _ _ _,rfl,rfl,?_⟩;rw [hwF];refine⟨((HC.out.then (hcF.mono (fun x hx=>.inl (by simp at hx;simp [hx])))).then (hcE.mono (fun x hx=>.inl (by simp at hx;simp [hx])))).drew,?_,?_⟩
 ·exact(hbF.kept hcE (by simpa using hne)).kept (Chg.refl [] _).drew (by simp)
 ·have:=(heF.set 0 (.iface 140 (ptr b))).kept (Chg.refl [] _).drew (by simp)
  simpa using this
end Go.Proofs.YtechofppmnnomaaGreatDoor
namespace Go.Mq.Tree
open Go Go.RowKit Go.Mq
def ParseOut (w:World) (r:Res) (e:Ending) (w':World):Prop:=Chg [] w w'∧match r with
 | .ok m=>∃ v,e = .returned (.tuple #[v,.nilIface])∧ModAt w' (New w w') m v
 | .bad en p=>∃ b,e = .returned (.tuple #[.agg #[str [],nils,nils,nils,nils],.iface 140 (ptr b)])∧w.heap.size≤b∧Blk w' b #[.int .i64 en,.int .i64 p] 142
end Go.Mq.Tree
namespace Go.Proofs.YtechofppmnnomaaGreatDoor
open Go Go.RowKit Go.Mq Go.Mq.Tree
set_option maxRecDepth 100000
set_option maxHeartbeats 1000000
theorem results_cells (tmps:Array Value) (bm be:Nat) (c0 c1 c2 c3 c4 ev:Value) (w:World) (h2 : tmps[2]?.getD undef=ptr bm) (h3 : tmps[3]?.getD undef=ptr be) (hm:Blk w bm #[c0,c1,c2,c3,c4] 32) (he:Blk w be #[ev] 34) :
  (results Tryz.f12 tmps).run Tryz.prog w = .ok (.tuple #[.agg #[c0,c1,c2,c3,c4],ev]) w:=by
 have d0:=hm.cell 0 _ rfl;have d1:=hm.cell 1 _ rfl;have d2:=hm.cell 2 _ rfl;have d3:=hm.cell 3 _ rfl;have d4:=hm.cell 4 _ rfl;have e0:=he.cell 0 _ rfl;simp [results,Tryz.results12,h2,h3,go_sem,d0,d1,d2,d3,d4,e0]
theorem leave_idle (tmps:Array Value) (bm be:Nat) (c0 c1 c2 c3 c4 ev:Value) (w:World) (R:Ending→World→Prop) (h2 : tmps[2]?.getD undef=ptr bm) (h3 : tmps[3]?.getD undef=ptr be) (hm:Blk w bm #[c0,c1,c2,c3,c4] 32) (he:Blk w be #[ev] 34)
  (hR:R (.returned (.tuple #[.agg #[c0,c1,c2,c3,c4],ev])) w):Leaves Tryz.prog Tryz.f12 tmps R [{ target:=.fn (.func 33) #[ptr bm,ptr be],args:=#[] }] .returning w:=by
 refine leaves_cons (f:=33) (args:=#[ptr bm,ptr be]) (by simp) (by simp [go_sem]) ?_;refine(catch_idle bm be w).mono ?_;rintro e u' w'' ⟨rfl,rfl,rfl⟩;exact⟨_,results_cells tmps bm be c0 c1 c2 c3 c4 ev w'' h2 h3 hm he,hR⟩
theorem leave_thrown (tmps:Array Value) (bm be b:Nat) (c0 c1 c2 c3 c4 ev:Value) (w:World) (R:Ending→World→Prop) (h2 : tmps[2]?.getD undef=ptr bm) (h3 : tmps[3]?.getD undef=ptr be) (hm:Blk w bm #[c0,c1,c2,c3,c4] 32) (he:Blk w be #[ev] 34) (hne : bm≠be)
  (hR : ∀ w',Chg [bm,be] w w'→R (.returned (.tuple #[.agg #[str [],nils,nils,nils,nils],.iface 140 (ptr b)])) w'):Leaves Tryz.prog Tryz.f12 tmps R [{ target:=.fn (.func 33) #[ptr bm,ptr be],args:=#[] }] (.panicking [{ v:=.iface 81 (.agg #[.iface 140 (ptr b)]),recovered:=false }]) w:=by
 refine leaves_cons (f:=33) (args:=#[ptr bm,ptr be]) (by simp) (by simp [go_sem]) ?_;refine(catch_thrown bm be b c0 c1 c2 c3 c4 ev w hm he hne).mono ?_;rintro e u' w'' ⟨rfl,rfl,hc,hm',he'⟩;exact⟨_,results_cells tmps bm be _ _ _ _ _ _ w'' h2 h3 hm' he',hR w'' hc⟩
theorem parse_any (l:List UInt8) (hl : l.length≤1099511627776) (w:World) (B:Nat) (hL:Laid w B):Calls Tryz.prog 12 #[str l] w (ParseOut w (parse l)):=by
 have hmf : ∀ (fn:Fn) (first cap:Array Value) (w:World),(Instr.makeFunc fn first cap).run Tryz.prog w = .ok (.func fn first cap) w:=fun _ _ _ _=>rfl
 have hw1 : (w.alloc (.cells #[str [],nils,nils,nils,nils] 32)).heap.size=w.heap.size + 1:=by simp
 obtain⟨w0,hw0⟩ : ∃ w0,w0=(w.alloc (.cells #[str [],nils,nils,nils,nils] 32)).alloc (.cells #[.nilIface] 34):=⟨_,rfl⟩
 have hb0:=Blk.new (w.alloc (.cells #[str [],nils,nils,nils,nils] 32)) #[.nilIface] 34;have hm0:=(Blk.new w #[str [],nils,nils,nils,nils] 32).kept ((Chg.refl [] _).alloc (.cells #[.nilIface] 34)) (by simp);have hc0:Chg [] w ((w.alloc (.cells #[str [],nils,nils,nils,nils] 32)).alloc (.cells #[.nilIface] 34)):=((Chg.refl _ _).alloc _).alloc _;have hs0 : ((w.alloc (.cells #[str [],nils,nils,nils,nils] 32)).alloc (.cells #[.nilIface] 34)).heap.size=w.heap.size + 2:=by simp
 rw [hw1,← hw0] at hb0;rw [← hw0] at hm0 hc0 hs0;have HBE:=zh hb0;have HBM:=zh hm0;have HC0:=zh hc0;have hLw:Laid w0 B:=hL.kept hc0 (by simp);have HL:=zh hLw;have HTK:=zh (tokens_any l hl w0 B hLw);have hB0:=hL.le;clear hL hLw hb0 hm0 hw1 hc0;cases hx : lex l with
 | bad en q=>
  have HRR:=zh (show parse l = .bad en q by rw [parse,hx]);rw [hx] at HTK;clear hx
  go_enter_defers Tryz.func12,Tryz.ntmps12
  go_wp2_with fail
  try rw [← hw0]
  refine HTK.out.mono ?_;rintro _ w1 ⟨hc1,b,rfl,hbl,hb1⟩;have hbe:=HBE.out.kept hc1 (by simp);have hbm:=HBM.out.kept hc1 (by simp);have d0:=hbe.cell 0 _ rfl;have f0:=hbe.frozen 0;clear hw0;have hcs:Chg [w.heap.size + 1] w1 (w1.setCell ⟨w.heap.size + 1,0,none⟩ (.iface 140 (ptr b))):=Chg.set1 _ _ _ _;have hbe2:Blk (w1.setCell ⟨w.heap.size + 1,0,none⟩ (.iface 140 (ptr b))) (w.heap.size + 1) #[.iface 140 (ptr b)] 34:=by simpa using hbe.set 0 (.iface 140 (ptr b))
  have hbm2:=hbm.kept hcs (by simp);have hb2:=hb1.kept hcs (by simp;omega);have hc2:Chg [] w _:=(HC0.out.then hc1).trans hcs (fun x hx=>.inr (by simp at hx;omega));have HBE2:=zh hbe2;have HBM2:=zh hbm2;have HB2:=zh hb2;have HC2:=zh hc2;clear hc1 hb1 hbe hbm hcs hbe2 hbm2 hb2 hc2;go_wp2_with fail
  generalize w1.setCell ⟨w.heap.size + 1,0,none⟩ (.iface 140 (ptr b))=w2 at *
  have d0:=HBE2.out.cell 0 _ rfl;have f0:=HBE2.out.frozen 0;have m0:=HBM2.out.cell 0 _ rfl;have m1:=HBM2.out.cell 1 _ rfl;have m2:=HBM2.out.cell 2 _ rfl;have m3:=HBM2.out.cell 3 _ rfl;have m4:=HBM2.out.cell 4 _ rfl;have k0:=HBM2.out.frozen 0;have k1:=HBM2.out.frozen 1;have k2:=HBM2.out.frozen 2;have k3:=HBM2.out.frozen 3;have k4:=HBM2.out.frozen 4
  go_region
  obtain⟨wF,hwF,hcF,hbF⟩:=set5 (str []) nils nils nils nils HBM2.out;have heF:=HBE2.out.kept hcF (by simp);have hcE:Chg [w.heap.size + 1] wF (wF.setCell ⟨w.heap.size + 1,0,none⟩ (.iface 140 (ptr b))):=Chg.set1 _ _ _ _;have hbE:=hbF.kept hcE (by simp);have heE:=heF.set 0 (.iface 140 (ptr b));simp only [Array.setIfInBounds,List.size_toArray,List.length_cons,List.length_nil] at heE;have hb2:=(HB2.out.kept hcF (by simp;omega)).kept hcE (by simp;omega);have hcG:Chg [] w (wF.setCell ⟨w.heap.size + 1,0,none⟩ (.iface 140 (ptr b))):=(HC2.out.trans hcF (fun x hx=>.inr (by simp at hx;omega))).trans hcE (fun x hx=>.inr (by simp at hx;omega));have HFIN:=zh (And.intro hbE (And.intro heE (And.intro hb2 hcG)));clear hbE heE hb2 hcG hcE heF hbF hcF d0 f0 m0 m1 m2 m3 m4 k0 k1 k2 k3 k4;rw [hwF];go_wp2_with fail;obtain⟨hbE,heE,hb2,hcG⟩:=HFIN.out;refine leave_idle _ _ _ _ _ _ _ _ _ _ _ rfl rfl (hbE.kept (Chg.refl [] _).drew (by simp)) (heE.kept (Chg.refl [] _).drew (by simp)) ?_;rw [HRR.out];exact⟨hcG.drew,b,rfl,by omega,hb2.kept (Chg.refl [] _).drew (by simp)⟩
 | ok ts=>
  have HLX:=zh hx;rw [hx] at HTK;clear hx
  go_enter_defers Tryz.func12,Tryz.ntmps12
  go_wp2_with fail
  try rw [← hw0]
  refine HTK.out.mono ?_;rintro _ w1 ⟨hc1,a,k,rfl,hk,hrow,hfew,hshort⟩;obtain⟨bt,off,rfl,hcell⟩:=hrow.at_ (by rw [toksCells_eq];simp);have hF:=hrow.own (by rw [toksCells_eq];simp) _ rfl;have hbe:=HBE.out.kept hc1 (by simp);have hbm:=HBM.out.kept hc1 (by simp);have d0:=hbe.cell 0 _ rfl;have f0:=hbe.frozen 0;clear hw0;have hcs:Chg [w.heap.size + 1] w1 (w1.setCell ⟨w.heap.size + 1,0,none⟩ .nilIface):=Chg.set1 _ _ _ _;have hbe2:Blk (w1.setCell ⟨w.heap.size + 1,0,none⟩ .nilIface) (w.heap.size + 1) #[.nilIface] 34:=by simpa using hbe.set 0 .nilIface
  have hbm2:=hbm.kept hcs (by simp);have hc2:Chg [] w _:=(HC0.out.then hc1).trans hcs (fun x hx=>.inr (by simp at hx;omega));have hs1:=hc1.size;have hL2:=(HL.out.kept hc1 (by simp)).kept hcs (fun x hx=>by simp at hx;omega);have hbt0 : w0.heap.size≤bt:=hF.1;have hcell2 : ∀ (i:Nat) (v:Value),(toksCells l.length ts)[i]?=some v→(w1.setCell ⟨w.heap.size + 1,0,none⟩ .nilIface).cell? ⟨bt,off + i,none⟩=some v:=fun i v hv=>hcs.cellSome (hcell i v hv) (by simp;omega)
  have hs2 : (w1.setCell ⟨w.heap.size + 1,0,none⟩ .nilIface).heap.size=w1.heap.size:=by simp [World.setCell]
  have hbt1 : bt < w1.heap.size:=hF.2;obtain⟨w2,hw2⟩ : ∃ w2,w2=w1.setCell ⟨w.heap.size + 1,0,none⟩ .nilIface:=⟨_,rfl⟩
  rw [← hw2] at hbe2 hbm2 hc2 hL2 hcell2 hs2;obtain⟨w3,hw3⟩ : ∃ w3,w3=w2.alloc (.cells #[.slice (some ⟨bt,off,none⟩) (ts.length + 1) k] 88):=⟨_,rfl⟩
  have hc3:Chg [] w2 w3:=by rw [hw3];exact(Chg.refl _ _).alloc _
  have hb3:Blk w3 w1.heap.size #[.slice (some ⟨bt,off,none⟩) (ts.length + 1) k] 88:=by rw [hw3,← hs2];exact Blk.new _ _ _
  have hs3 : w3.heap.size=w1.heap.size + 1:=by rw [hw3,← hs2];simp
  have hPar:Par w3 B w1.heap.size bt l.length ts:=⟨hL2.kept hc3 (by simp),by omega,by omega,by omega,hfew,hshort,off,k,hb3,hk,fun i v hv=>hc3.cellSome (hcell2 i v hv) (by simp)⟩;have hbe3:=hbe2.kept hc3 (by simp);have hbm3:=hbm2.kept hc3 (by simp);have hcw3:Chg [] w w3:=hc2.then hc3
  have HM:=zh (module_any w3 B w1.heap.size bt l.length ts hPar);have HBE3:=zh hbe3;have HBM3:=zh hbm3;have HC3:=zh hcw3;have hn2 : w.heap.size + 2≤w1.heap.size:=by omega
  have g0 : w2.cell? ⟨w.heap.size + 1,0,none⟩=some .nilIface:=hbe2.cell 0 _ rfl;clear hc1 hrow hcell hF hbe hbm hcs hbe2 hbm2 hc2 hL2 hcell2 hc3 hb3 hPar hbe3 hbm3 hcw3 hfew hshort;cases hx : module_ l.length ts with
  | bad en q=>
   have HRR:=zh (show parse l = .bad en q by rw [parse,HLX.out];simp only [hx]);rw [hx] at HM;clear hx;go_wp2_with fail;rw [← hw2,← hw3];refine HM.out.mono ?_;intro e w9 he;obtain⟨b9,rfl⟩:=he.thrown;have HEE:=zh he;clear he;go_wp2_with fail;obtain⟨hc9,b,hbe9,hlt9,hb9⟩:=HEE.out;cases hbe9
   refine leave_thrown _ _ _ _ _ _ _ _ _ _ _ _ rfl rfl (HBM3.out.kept hc9 (by simp;omega)) (HBE3.out.kept hc9 (by simp;omega)) (by omega) (fun w' hc=>?_);rw [HRR.out];exact⟨(HC3.out.trans hc9 (fun x hx=>.inr (by simp at hx;omega))).trans hc (fun x hx=>.inr (by simp at hx;omega)),_,rfl,by omega,hb9.kept hc (by simp;omega)⟩
  | ok m ts'=>
   have HMX:=zh hx;rw [hx] at HM;clear hx;go_wp2_with fail;rw [← hw2,← hw3];refine HM.out.mono ?_;rintro _ w4 ⟨hc4,_,rfl,⟨vi,vv,vp,vb,rfl,hmi,hmv,hmp,hmb⟩,hp4⟩;have hbe4:=HBE3.out.kept hc4 (by simp;omega);have hbm4:=HBM3.out.kept hc4 (by simp;omega);have d0:=hbm4.cell 0 _ rfl;have d1:=hbm4.cell 1 _ rfl;have d2:=hbm4.cell 2 _ rfl;have d3:=hbm4.cell 3 _ rfl;have d4:=hbm4.cell 4 _ rfl;have f0:=hbm4.frozen 0;have f1:=hbm4.frozen 1;have f2:=hbm4.frozen 2;have f3:=hbm4.frozen 3;have f4:=hbm4.frozen 4;have hs4:=hc4.size;have hcw4:Chg [] w w4:=HC3.out.trans hc4 (fun x hx=>.inr (by simp at hx;omega));have HMA:=zh (show ModAt w4 (New w3 w4) m (.agg #[str m.name,vi,vv,vp,vb]) from⟨vi,vv,vp,vb,rfl,hmi,hmv,hmp,hmb⟩);obtain⟨ai,ci,rfl,_⟩:=hmi;obtain⟨av,cv,rfl,_⟩:=hmv;obtain⟨ap,cp,_,rfl,_⟩:=hmp;obtain⟨ab,cb,_,rfl,_⟩:=hmb;obtain⟨wF,hwF,hcF,hbF⟩:=set5 (str m.name) (.slice ai m.imports.length ci) (.slice av m.vars.length cv) (.slice ap m.procs.length cp) (.slice ab m.body.len cb) hbm4;have hpF:=hp4.kept hcF (fun x hx=>by simp at hx;omega) (by simp;omega) (by simp;omega);have hbeF:=hbe4.kept hcF (by simp);have HPF:=zh hpF;have HBF:=zh hbF;have HBEF:=zh hbeF;have HCF:=zh hcF;have HCW:=zh hcw4;have g0:=hbF.cell 0 _ rfl;have g1:=hbF.cell 1 _ rfl;have g2:=hbF.cell 2 _ rfl;have g3:=hbF.cell 3 _ rfl;have g4:=hbF.cell 4 _ rfl;have k0:=hbF.frozen 0;have k1:=hbF.frozen 1;have k2:=hbF.frozen 2;have k3:=hbF.frozen 3;have k4:=hbF.frozen 4;have ge:=hbeF.cell 0 _ rfl;have ke:=hbeF.frozen 0;clear hc4 hbe4 hbm4 hcF hp4 hbeF hbF hcw4;cases ts' with
   | nil=>
    have HRR:=zh (show parse l = .ok m by rw [parse,HLX.out];simp only [HMX.out]);obtain⟨o2,c2,p0,p1,_,hl2⟩:=par_nil hpF;obtain⟨wG,hwG,hcG,hbG⟩:=set5 (str m.name) (.slice ai m.imports.length ci) (.slice av m.vars.length cv) (.slice ap m.procs.length cp) (.slice ab m.body.len cb) HBF.out;have hbeG:=HBEF.out.kept hcG (by simp);have geG:=hbeG.cell 0 _ rfl;have keG:=hbeG.frozen 0;obtain⟨wH,hwH⟩ : ∃ wH,wG.setCell ⟨w.heap.size + 1,0,none⟩ .nilIface=wH:=⟨_,rfl⟩
    have hcH:Chg [w.heap.size + 1] wG wH:=by rw [← hwH];exact Chg.set1 _ _ _ _
    have hbeH:Blk wH (w.heap.size + 1) #[.nilIface] 34:=by rw [← hwH];simpa using hbeG.set 0 .nilIface
    have hbmH:=hbG.kept hcH (by simp);have hcF':=HCF.out.trans hcG (fun x hx=>.inl hx);have hMH:ModAt wH (New w wH) m (.agg #[str m.name,.slice ai m.imports.length ci,.slice av m.vars.length cv,.slice ap m.procs.length cp,.slice ab m.body.len cb]):=by
     have hsF:=hcF'.size;have hsH:=hcH.size;refine((HMA.out.kept hcF' (fun x hx hn=>?_)).kept hcH (fun x hx hn=>?_)).mono (fun x hx=>⟨by have:=hx.1;omega,by have:=hx.2;omega⟩)
     ·simp at hx;have:=hn.1;omega
     ·simp at hx;have:=hn.1;omega
    have HBMH:=zh hbmH;have HBEH:=zh hbeH;have HMH:=zh hMH;have HCH:=zh ((HCW.out.trans hcF' (fun x hx=>.inr (by simp at hx;omega))).trans hcH (fun x hx=>.inr (by simp at hx;omega)));clear hpF hcG hbG hbeG hcH hbeH hbmH hcF' hMH;go_wp2_with fail;exact leave_idle _ _ _ _ _ _ _ _ _ _ _ rfl rfl HBMH.out HBEH.out (by rw [HRR.out];exact⟨HCH.out,_,rfl,HMH.out⟩)
   | cons t r=>
    have HRR:=zh (show parse l = .bad 3 t.pos by rw [parse,HLX.out];simp only [HMX.out]);obtain⟨o2,c2,hpb,p0,p1,p2,p3,hl2,_⟩:=par_cons hpF;have hkn:=kind_ne t.kind;have HFA:=zh (fail_any 3 wF B w1.heap.size bt l.length (t :: r) hpF);clear hpF hpb;go_wp2_with fail;refine HFA.out.mono ?_;intro e w9 he;obtain⟨b9,rfl⟩:=he.thrown;have HEE:=zh he;clear he;go_wp2_with fail;obtain⟨hc9,b,hbe9,hlt9,hb9⟩:=HEE.out;cases hbe9
    have hsF:=HCF.out.size;refine leave_thrown _ _ _ _ _ _ _ _ _ _ _ _ rfl rfl (HBF.out.kept hc9 (by simp;omega)) (HBEF.out.kept hc9 (by simp;omega)) (by omega) (fun w' hc=>?_);rw [HRR.out];exact⟨((HCW.out.trans HCF.out (fun x hx=>.inr (by simp at hx;omega))).trans hc9 (fun x hx=>.inr (by simp at hx;omega))).trans hc (fun x hx=>.inr (by simp at hx;omega)),_,rfl,by omega,hb9.kept hc (by simp;omega)⟩
end Go.Proofs.YtechofppmnnomaaGreatDoor
namespace Go.Mq.Tree
open Go Go.RowKit Go.Mq
def wordy (c:UInt8):Bool:=letter c || digit c
def kindT:List UInt8→Kind
 | []=>.mark
 | c :: _=>if letter c then .word else if digit c then .number else .mark
def IsWord (t:List UInt8):Prop:=∃ c r,t=c :: r∧letter c=true ∧ ∀ x∈r,wordy x=true
def IsNum (t:List UInt8):Prop:=∃ c r,t=c :: r∧digit c=true ∧ ∀ x∈r,digit x=true
def IsTok (t:List UInt8):Prop:=IsWord t∨IsNum t∨t∈marks
def Ends (t:List UInt8):List UInt8→Prop
 | []=>True
 | b :: _=>(kindT t ≠ .mark→wordy b=false)∧(b.toNat=61→t≠[58]∧t≠[60]∧t≠[62])
inductive Toks:List UInt8→List (List UInt8)→Prop
 | nil:Toks [] []
 | gap {c u K} : gap c=true→Toks u K→Toks (c :: u) K
 | tok {t u K} : IsTok t→Ends t u→Toks u K→Toks (t ++ u) (t :: K)
inductive Spread:List UInt8→List UInt8→Prop
 | nil:Spread [] []
 | byte {c u v} : gap c=false→Spread u v→Spread (c :: u) (c :: v)
 | gap {c g u v} : gap c=true→g≠[]→(∀ x∈g,gap x=true)→Spread u v→Spread (c :: u) (g ++ v)
theorem Spread.refl : ∀ u,Spread u u
 | []=>.nil
 | c :: u=>by
  cases h:Tree.gap c with
  | false=>exact .byte h (Spread.refl u)
  | true=>exact Spread.gap (g:=[c]) h (by simp) (by simpa using h) (Spread.refl u)
theorem letter_val {c:UInt8} (h : letter c=true) : 97≤c.toNat∧c.toNat≤122:=by simpa [letter] using h
theorem digit_val {c:UInt8} (h : digit c=true) : 48≤c.toNat∧c.toNat≤57:=by simpa [digit] using h
theorem tok_ne {t:List UInt8} (h:IsTok t) : t≠[]:=by
 rcases h with⟨c,r,rfl,_,_⟩|⟨c,r,rfl,_,_⟩|h
 ·simp
 ·simp
 ·revert h;revert t;decide
theorem letter_not_digit {c:UInt8} (h : digit c=true) : letter c=false:=by
 cases hl : letter c with
 | false=>rfl
 | true=>have:=letter_val hl;have:=digit_val h;omega
theorem kind_word {t:List UInt8} (h:IsWord t) : kindT t = .word:=by
 obtain⟨c,r,rfl,hc,_⟩:=h;simp [kindT,hc]
theorem kind_num {t:List UInt8} (h:IsNum t) : kindT t = .number:=by
 obtain⟨c,r,rfl,hc,_⟩:=h;simp [kindT,hc,letter_not_digit hc]
theorem kind_mark : ∀ t∈marks,kindT t = .mark:=by decide
theorem howN_take {f:UInt8→Bool} : ∀ (l:List UInt8),(∀ x∈l.take (howN f l),f x=true)∧howN f l≤l.length
 | []=>by simp [howN]
 | c :: t=>by
  have h:=howN_take (f:=f) t;cases hc : f c with
  | false=>simp [howN,hc]
  | true=>
   simp only [howN,hc,if_true,List.take_succ_cons,List.length_cons];exact⟨fun x hx=>(List.mem_cons.mp hx).elim (fun e=>e ▸ hc) (h.1 x),by omega⟩
theorem next_istok {l:List UInt8} (h : (nextK l).2≠0):IsTok (l.take (nextK l).2)∧kindT (l.take (nextK l).2)=(nextK l).1∧(nextK l).2≤l.length:=by
 cases l with
 | nil=>simp [nextK] at h
 | cons c t=>
  rw [nextK] at h ⊢;by_cases hl : letter c=true
  ·rw [if_pos hl] at h ⊢
   have hh:=howN_take (f:=fun c=>letter c || digit c) (c :: t);have he : howN (fun c=>letter c || digit c) (c :: t)=howN (fun c=>letter c || digit c) t + 1:=by simp [howN,hl]
   simp only [he,List.take_succ_cons] at hh ⊢;have hw:IsWord (c :: t.take (howN (fun c=>letter c || digit c) t)):=⟨c,_,rfl,hl,fun x hx=>by simpa [wordy] using hh.1 x (by simp [hx])⟩;exact⟨.inl hw,kind_word hw,hh.2⟩
  ·rw [if_neg hl] at h ⊢
   by_cases hd : digit c=true
   ·rw [if_pos hd] at h ⊢
    have hh:=howN_take (f:=digit) (c :: t);have he : howN digit (c :: t)=howN digit t + 1:=by simp [howN,hd]
    simp only [he,List.take_succ_cons] at hh ⊢;have hw:IsNum (c :: t.take (howN digit t)):=⟨c,_,rfl,hd,fun x hx=>hh.1 x (by simp [hx])⟩;exact⟨.inr (.inl hw),kind_num hw,hh.2⟩
   ·rw [if_neg hd] at h ⊢
    cases hf : marks.find? fun m=>m.isPrefixOf (c :: t) with
    | none=>simp [hf] at h
    | some m=>
     have h1:=List.mem_of_find?_eq_some hf;have h2:=List.find?_some hf;obtain⟨v,hv⟩:=List.isPrefixOf_iff_prefix.mp h2;simp only [Option.map_some,Option.getD_some];rw [← hv];simp only [List.take_left,List.length_append];exact⟨.inr (.inr h1),kind_mark m h1,by omega⟩
def bytes (ts:List Tok):Nat:=(ts.map fun t=>t.text.length).sum
def Good (ts:List Tok):Prop:=∀ t∈ts,IsTok t.text∧t.kind=kindT t.text
theorem lexL_good : ∀ (f i k:Nat) (l:List UInt8) (ts:List Tok),lexL f i k l = .ok ts→Good ts∧bytes ts≤l.length
 | 0,_,_,l,ts,h=>by cases h;exact⟨fun _ h=>by simp at h,by simp [bytes]⟩
 | f + 1,i,k,[],ts,h=>by cases h;exact⟨fun _ h=>by simp at h,by simp [bytes]⟩
 | f + 1,i,k,c :: t,ts,h=>by
  rw [lexL] at h;split at h
  ·have:=lexL_good f _ _ _ _ h
   exact⟨this.1,by simp only [List.length_cons];omega⟩
  ·split at h
   ·cases h
   ·rename_i hn
    split at h
    ·cases h
    ·split at h
     ·rename_i ts' hts
      cases h
      have h1:=lexL_good f _ _ _ _ hts;have h2:=next_istok hn;refine⟨?_,?_⟩
      ·intro x hx
       rcases List.mem_cons.mp hx with rfl|hx
       ·exact⟨h2.1,h2.2.1.symm⟩
       ·exact h1.1 x hx
      ·have h3:=h1.2
       have h4 : ((c :: t).take (nextK (c :: t)).2).length=(nextK (c :: t)).2:=by rw [List.length_take];exact Nat.min_eq_left h2.2.2
       rw [List.length_drop] at h3;simp only [bytes,List.map_cons,List.sum_cons,h4] at h3 ⊢;have:=h2.2.2;omega
     ·cases h
end Go.Mq.Tree
namespace Go.Mq.Tree
open Go Go.RowKit Go.Mq
def Nm (n:List UInt8):Prop:=IsWord n∧kept n=false∧n.length≤10
def Qm (m:List UInt8):Prop:=m=[]∨Nm m
def E.isX:E→Prop
 | .nil=>False
 | .cons _ _=>False
 | _=>True
def E.isL:E→Prop
 | .nil=>True
 | .cons _ _=>True
 | _=>False
def WF:E→Prop
 | .num _ n=>0≤n∧n≤9223372036854775807
 | .var _ m n=>Qm m∧Nm n
 | .item _ m n i=>Qm m∧Nm n∧WF i∧i.isX
 | .un _ op x=>(op=[45]∨op=[110,111,116])∧WF x∧x.isX
 | .bin _ op x y=>(∃ k,k < 5∧op∈levels.getD (4 - k) [])∧(WF x∧x.isX)∧WF y∧y.isX
 | .app _ m n l=>Qm m∧Nm n∧WF l∧l.isL
 | .nil=>True
 | .cons x r=>(WF x∧x.isX)∧WF r∧r.isL
def needW (lv:Nat) (x:E) (k:Nat):Nat:=if lv≤lvl x then k else k + 1
def need:E→Nat
 | .num _ _=>1
 | .var _ _ _=>1
 | .item _ _ _ i=>need i + 1
 | .un _ _ x=>needW 5 x (need x) + 1
 | .bin _ op x y=>max (needW (opLevel op) x (need x)) (needW (opLevel op + 1) y (need y))
 | .app _ _ _ l=>need l + 1
 | .nil=>0
 | .cons x r=>max (need x) (need r)
def withinK (lv:Nat) (x:E) (K:List (List UInt8)):List (List UInt8):=if lv≤lvl x then K else [40] :: (K ++ [[41]])
def qualK (m n:List UInt8):List (List UInt8):=if m=[] then [n] else [m,[46],n]
def toks:E→List (List UInt8)
 | .num _ n=>[Lib.itoa n]
 | .var _ m n=>qualK m n
 | .item _ m n i=>qualK m n ++ [91] :: (toks i ++ [[93]])
 | .un _ op x=>op :: withinK 5 x (toks x)
 | .bin _ op x y=>withinK (opLevel op) x (toks x) ++ op :: withinK (opLevel op + 1) y (toks y)
 | .app _ m n l=>qualK m n ++ [40] :: (toks l ++ [[41]])
 | .nil=>[]
 | .cons x .nil=>toks x
 | .cons x r=>toks x ++ [44] :: toks r
def E.cost:E→Nat
 | .cons x r=>(toks x).length + 1 + r.cost
 | _=>0
def Sp {α:Type} (p:Ps α) (Q : α→Prop) (c : α→Nat):Prop:=∀ ts a r,Good ts→p ts = .ok a r→Q a∧c a + bytes r≤bytes ts∧Good r
theorem bytes_cons (t:Tok) (r:List Tok) : bytes (t :: r)=t.text.length + bytes r:=by simp [bytes]
theorem good_cons {t:Tok} {r:List Tok} (h:Good (t :: r)) : (IsTok t.text∧t.kind=kindT t.text)∧Good r:=⟨h t (by simp),fun x hx=>h x (by simp [hx])⟩
theorem len_pos {t:List UInt8} (h:IsTok t) : 1≤t.length:=by
 cases t with
 | nil=>exact absurd rfl (tok_ne h)
 | cons _ _=>simp
theorem see_cost {s:List UInt8} {ts:List Tok} (hg:Good ts) (h : see s ts=true) : s.length + bytes ts.tail=bytes ts∧Good ts.tail:=by
 cases ts with
 | nil=>simp [see] at h
 | cons t r=>
  have : t.text=s:=by simpa [see] using h
  exact⟨by rw [bytes_cons,this];rfl,(good_cons hg).2⟩
theorem must_sp {z:Nat} {s:List UInt8} {ts:List Tok} {u:Unit} {r:List Tok} (hg:Good ts) (h : must z s ts = .ok u r) : s.length + bytes r=bytes ts∧Good r:=by
 rw [must] at h;split at h
 ·rename_i hs;cases h;exact see_cost hg hs
 ·cases h
theorem name_sp {z:Nat} : Sp (name z) Nm (fun _=>1):=by
 intro ts n r hg h;cases ts with
 | nil=>cases h
 | cons t ts=>
  rw [name] at h;split at h
  ·cases h
  ·rename_i h1
   split at h
   ·cases h
   ·rename_i h2
    cases h
    have hg:=good_cons hg;have hk : kindT t.text = .word:=by rw [← hg.1.2];exact Classical.not_not.mp fun h=>h1 (.inl h)
    refine⟨⟨?_,by simpa using fun h=>h1 (.inr h),by omega⟩,by show 1 + _≤_;rw [bytes_cons];have:=len_pos hg.1.1;omega,hg.2⟩;rcases hg.1.1 with h|h|h
    ·exact h
    ·rw [kind_num h] at hk;cases hk
    ·rw [kind_mark _ h] at hk;cases hk
theorem number_sp {z:Nat} {most:Int} : Sp (number z most) (fun n=>0≤n∧n≤most) (fun _=>1):=by
 intro ts n r hg h;cases ts with
 | nil=>cases h
 | cons t ts=>
  rw [number] at h;split at h
  ·cases h
  ·rename_i h1
   have hg:=good_cons hg;have hk : kindT t.text = .number:=by rw [← hg.1.2];exact Classical.not_not.mp h1
   have hn:IsNum t.text:=by
    rcases hg.1.1 with h|h|h
    ·rw [kind_word h] at hk;cases hk
    ·exact h
    ·rw [kind_mark _ h] at hk;cases hk
   split at h
   ·rename_i n' hp
    split at h
    ·cases h
    ·rename_i h2
     cases h
     refine⟨⟨?_,by omega⟩,by show 1 + _≤_;rw [bytes_cons];have:=len_pos hg.1.1;omega,hg.2⟩;obtain⟨c,r,hc,hd,_⟩:=hn;rw [hc] at hp;have hd:=digit_val hd;have e : (c.toNat=45)=False:=by simp;omega
     unfold Lib.parseIntB at hp
     simp only [e,not_false_eq_true,true_and,false_and,if_false] at hp;split at hp
     ·cases hp
     ·cases hp
     ·split at hp
      ·cases hp
      ·injection hp with hp;omega
   ·cases h
theorem namesL_sp {z most:Nat} : ∀ (f:Nat) (l:List (List UInt8)) (ts:List Tok) (l':List (List UInt8)) (r:List Tok),Good ts→(∀ n∈l,Nm n)→l.length≤most→namesL z most f l ts = .ok l' r →
  (∀ n∈l',Nm n)∧l'.length≤most∧l.length < l'.length∧2 * l'.length + bytes r≤2 * l.length + bytes ts + 1∧Good r
 | 0,_,_,_,_,_,_,_,h=>by cases h
 | f + 1,l,ts,l',r,hg,hl,hm,h=>by
  rw [namesL] at h;split at h
  ·cases h
  ·cases hn : name z ts with
   | bad e p=>simp only [hn] at h;cases h
   | ok n r1=>
    obtain⟨h1,h2,h3⟩:=name_sp _ _ _ hg hn
    replace h2 : 1 + bytes r1≤bytes ts:=h2
    have hl2 : ∀ x∈l ++ [n],Nm x:=by
     intro x hx;rcases List.mem_append.mp hx with hx|hx
     ·exact hl x hx
     ·simp at hx;subst hx;exact h1
    simp only [hn] at h;split at h
    ·rename_i hs
     have hc:=see_cost h3 hs;have hr:=namesL_sp f _ _ _ _ hc.2 hl2 (by simp;omega) h;simp only [List.length_append,List.length_cons,List.length_nil] at hr hc;exact⟨hr.1,hr.2.1,by omega,by omega,hr.2.2.2.2⟩
    ·cases h
     exact⟨hl2,by simp;omega,by simp,by simp;omega,h3⟩
theorem names_sp {z most:Nat} {ts:List Tok} {l:List (List UInt8)} {r:List Tok} (hg:Good ts) (h : names z most ts = .ok l r) : (∀ n∈l,Nm n)∧l.length≤most∧l≠[]∧2 * l.length + bytes r≤bytes ts + 1∧Good r:=by
 have:=namesL_sp _ _ _ _ _ hg (by simp) (by simp) h;simp only [List.length_nil] at this;exact⟨this.1,this.2.1,fun h=>by rw [h] at this;simp at this,by omega,this.2.2.2.2⟩
theorem qual_sp {z:Nat} : Sp (qual z) (fun q=>Qm q.1∧Nm q.2) (fun q=>(qualK q.1 q.2).length):=by
 intro ts q r hg h;rw [qual] at h;cases h1 : name z ts with
 | bad e p=>simp only [h1] at h;cases h
 | ok n r1=>
  obtain⟨a1,a2,a3⟩:=name_sp _ _ _ hg h1
  replace a2 : 1 + bytes r1≤bytes ts:=a2
  simp only [h1] at h;split at h
  ·rename_i hs
   have hc:=see_cost a3 hs;cases h2 : name z r1.tail with
   | bad e p=>simp only [h2] at h;cases h
   | ok n2 r2=>
    obtain⟨b1,b2,b3⟩:=name_sp _ _ _ hc.2 h2
    replace b2 : 1 + bytes r2≤bytes r1.tail:=b2
    simp only [h2] at h;cases h
    refine⟨⟨.inr a1,b1⟩,?_,b3⟩;have : (qualK n n2).length≤3:=by rw [qualK];split <;> simp
    simp only [List.length_cons,List.length_nil] at hc;simp only;omega
  ·cases h
   exact⟨⟨.inl rfl,a1⟩,by simp [qualK];omega,a3⟩
theorem op_level : ∀ k < 5,∀ op∈levels.getD (4 - k) [],opLevel op=4 - k:=by decide
theorem within_len (lv:Nat) (x:E) (K:List (List UInt8)) : (withinK lv x K).length≤K.length + 2:=by rw [withinK];split <;> simp
theorem within_mono {a b:Nat} (h : a≤b) (x:E) (K:List (List UInt8)) : (withinK a x K).length≤(withinK b x K).length:=by
 rw [withinK,withinK];split <;> split <;> simp <;> omega
theorem needW_mono {a b:Nat} (h : a≤b) (x:E) (k:Nat) : needW a x k≤needW b x k:=by
 rw [needW,needW];split <;> split <;> omega
def Fits (d lv:Nat) (x:E):Prop:=(WF x∧x.isX)∧needW lv x (need x)≤d
def costW (lv:Nat) (x:E):Nat:=(withinK lv x (toks x)).length
theorem op_cost {lv:List (List UInt8)} {ts:List Tok} {m:List UInt8} (hg:Good ts) (h : opOf lv ts=some m) : m∈lv∧1 + bytes ts.tail≤bytes ts∧Good ts.tail:=by
 have h1:=List.mem_of_find?_eq_some h;have h2:=List.find?_some h;have h3:=see_cost hg h2;refine⟨h1,?_,h3.2⟩;cases ts with
 | nil=>simp [see] at h2
 | cons t r=>rw [bytes_cons];have:=len_pos (good_cons hg).1.1;simp;omega
theorem binL_sp {sub:Ps E} {k d:Nat} (p:Nat) (hk : k < 5) (hs:Sp sub (Fits d (5 - k)) (costW (5 - k))) : ∀ (f:Nat) (x:E) (ts:List Tok) (a:E) (r:List Tok),Good ts→Fits d (4 - k) x→binL sub (levels.getD (4 - k) []) p f x ts = .ok a r →
  Fits d (4 - k) a∧costW (4 - k) a + bytes r≤costW (4 - k) x + bytes ts∧Good r
 | 0,_,_,_,_,_,_,h=>by cases h
 | f + 1,x,ts,a,r,hg,hx,h=>by
  rw [binL] at h;split at h
  ·cases h;exact⟨hx,Nat.le_refl _,hg⟩
  ·rename_i m hm
   obtain⟨o1,o2,o3⟩:=op_cost hg hm;cases hy : sub ts.tail with
   | bad e q=>simp only [hy] at h;cases h
   | ok y r1=>
    obtain⟨y1,y2,y3⟩:=hs _ _ _ o3 hy;simp only [hy] at h;have hlv:=op_level k hk m o1;have e5 : 5 - k=4 - k + 1:=by omega
    rw [e5] at y1 y2;have hb:Fits d (4 - k) (.bin p m x y):=by
     refine⟨⟨⟨⟨k,hk,o1⟩,hx.1,y1.1⟩,trivial⟩,?_⟩;have h1:=hx.2;have h2:=y1.2;rw [needW,if_pos (by rw [lvl,hlv];exact Nat.le_refl _),need,hlv];omega
    obtain⟨b1,b2,b3⟩:=binL_sp p hk hs f _ _ _ _ y3 hb h;have hc : costW (4 - k) (.bin p m x y)=costW (4 - k) x + 1 + costW (4 - k + 1) y:=by
     rw [costW,withinK,if_pos (by rw [lvl,hlv];exact Nat.le_refl _),toks,hlv,List.length_append,List.length_cons,costW,costW];omega
    exact⟨b1,by omega,b3⟩
theorem expr_sp {z d:Nat} {base:Ps E} (hb:Sp base (Fits d 5) (costW 5)) : ∀ (k:Nat),k≤5→Sp (expr z base k) (Fits d (5 - k)) (costW (5 - k))
 | 0,_=>hb
 | k + 1,hk=>by
  intro ts a r hg h;have ih:=expr_sp (z:=z) hb k (by omega);rw [expr] at h;cases hx : expr z base k ts with
  | bad e q=>simp only [hx] at h;cases h
  | ok x r1=>
   obtain⟨x1,x2,x3⟩:=ih _ _ _ hg hx;simp only [hx] at h;have e4 : 5 - (k + 1)=4 - k:=by omega
   rw [e4];have hx':Fits d (4 - k) x:=⟨x1.1,Nat.le_trans (needW_mono (by omega) _ _) x1.2⟩;obtain⟨b1,b2,b3⟩:=binL_sp _ (by omega) ih _ _ _ _ _ x3 hx' h;have : costW (4 - k) x≤costW (5 - k) x:=within_mono (by omega) _ _;exact⟨b1,by omega,b3⟩
theorem ofList_isL : ∀ l,(E.ofList l).isL
 | []=>trivial
 | _ :: _=>trivial
theorem toks_cost : ∀ (x:E) (l:List E),(toks (E.ofList (x :: l))).length + 1=(E.ofList (x :: l)).cost
 | x,[]=>by simp [E.ofList,toks,E.cost]
 | x,y :: r=>by
  have:=toks_cost y r;simp only [E.ofList] at this ⊢;rw [toks,E.cost]
  ·simp only [List.length_append,List.length_cons];omega
  ·intro h;cases h
theorem cost_append : ∀ (l:List E) (x:E),(E.ofList (l ++ [x])).cost=(E.ofList l).cost + (toks x).length + 1
 | [],x=>by simp [E.ofList,E.cost]
 | y :: l,x=>by simp only [List.cons_append,E.ofList,E.cost,cost_append l x];omega
theorem args_sp {z d:Nat} {ex:Ps E} (he:Sp ex (Fits d 0) (costW 0)) : ∀ (f:Nat) (first:Bool) (l:List E) (ts:List Tok) (l':List E) (r:List Tok),Good ts→(∀ x∈l,Fits d 0 x)→argsL z ex f first l ts = .ok l' r →
  (∀ x∈l',Fits d 0 x)∧((l'=l∧1 + bytes r=bytes ts)∨(l'≠[]∧(E.ofList l').cost + 1 + bytes r≤(E.ofList l).cost + bytes ts + (if first then 1 else 0)))∧Good r
 | 0,_,_,_,_,_,_,_,h=>by cases h
 | f + 1,first,l,ts,l',r,hg,hl,h=>by
  rw [argsL] at h;split at h
  ·rename_i hs
   cases h
   have:=see_cost hg hs;exact⟨hl,.inl ⟨rfl,by simpa using this.1⟩,this.2⟩
  ·split at h
   ·cases h
   ·rename_i h2
    have h3 : (Good (if first then ts else ts.tail))∧bytes (if first then ts else ts.tail) + (if first then 0 else 1)=bytes ts:=by
     cases first with
     | true=>exact⟨hg,rfl⟩
     | false=>
      have hs : see [44] ts=true:=by simpa using h2
      have:=see_cost hg hs;exact⟨this.2,by simp only [List.length_cons,List.length_nil] at this;simp;omega⟩
    cases hx : ex (if first then ts else ts.tail) with
    | bad e q=>simp only [hx] at h;cases h
    | ok x r1=>
     obtain⟨x1,x2,x3⟩:=he _ _ _ h3.1 hx;simp only [hx] at h;have hl2 : ∀ y∈l ++ [x],Fits d 0 y:=by
      intro y hy;rcases List.mem_append.mp hy with hy|hy
      ·exact hl y hy
      ·simp at hy;subst hy;exact x1
     obtain⟨b1,b2,b3⟩:=args_sp he f false _ _ _ _ x3 hl2 h;have : costW 0 x=(toks x).length:=by rw [costW,withinK,if_pos (Nat.zero_le _)]
     refine⟨b1,.inr ?_,b3⟩;have hca:=cost_append l x;rcases b2 with⟨rfl,b2⟩|⟨n2,b2⟩
     ·refine⟨by simp,?_⟩
      rw [hca];cases first <;> simp at * <;> omega
     ·refine⟨n2,?_⟩
      rw [hca] at b2;cases first <;> simp at * <;> omega
theorem list_fits {d:Nat} : ∀ l:List E,(∀ x∈l,Fits d 0 x)→WF (E.ofList l)∧need (E.ofList l)≤d
 | [],_=>⟨trivial,Nat.zero_le _⟩
 | x :: l,h=>by
  have h1:=h x (by simp);have h2:=list_fits l fun y hy=>h y (by simp [hy])
  have h3:=h1.2;rw [needW,if_pos (Nat.zero_le _)] at h3;exact⟨⟨h1.1,h2.1,ofList_isL l⟩,by rw [E.ofList,need];omega⟩
theorem fits_top {d:Nat} {x:E} (h:WF x∧x.isX) (hl : lvl x=5) (hn : need x≤d):Fits d 5 x∧costW 5 x=(toks x).length:=by
 refine⟨⟨h,?_⟩,?_⟩
 ·rw [needW,if_pos (by omega)];exact hn
 ·rw [costW,withinK,if_pos (by omega)]
theorem fits0 {d:Nat} {x:E} (h:Fits d 0 x) : need x≤d∧costW 0 x=(toks x).length:=by
 have:=h.2;rw [needW,if_pos (Nat.zero_le _)] at this;exact⟨this,by rw [costW,withinK,if_pos (Nat.zero_le _)]⟩
theorem named_sp {z d:Nat} {ex:Ps E} (he:Sp ex (Fits d 0) (costW 0)):Sp (named z ex) (Fits (d + 1) 5) (costW 5):=by
 intro ts a r hg h;rw [named] at h;cases hq : qual z ts with
 | bad e p=>simp only [hq] at h;cases h
 | ok q r1=>
  obtain⟨q1,q2,q3⟩:=qual_sp _ _ _ hg hq
  replace q2 : (qualK q.1 q.2).length + bytes r1≤bytes ts:=q2
  simp only [hq] at h;split at h
  ·rename_i hs
   have hc:=see_cost q3 hs;cases hx : ex r1.tail with
   | bad e p=>simp only [hx] at h;cases h
   | ok i r2=>
    obtain⟨x1,x2,x3⟩:=he _ _ _ hc.2 hx;simp only [hx] at h;cases hm : must z [93] r2 with
    | bad e p=>simp only [hm] at h;cases h
    | ok u r3=>
     have m1:=must_sp x3 hm;simp only [hm] at h;cases h
     have ⟨n1,c1⟩:=fits0 x1;obtain⟨f1,f2⟩:=fits_top (d:=d + 1) (x:=.item (hd z ts) q.1 q.2 i) ⟨⟨q1.1,q1.2,x1.1⟩,trivial⟩ rfl (by rw [need];omega);refine⟨f1,?_,m1.2⟩;rw [f2,toks];simp only [List.length_append,List.length_cons,List.length_nil] at *;omega
  ·split at h
   ·rename_i hs
    have hc:=see_cost q3 hs;cases hx : argsL z ex (r1.length + 1) true [] r1.tail with
    | bad e p=>simp only [hx] at h;cases h
    | ok l r2=>
     obtain⟨x1,x2,x3⟩:=args_sp he _ _ _ _ _ _ hc.2 (by simp) hx;simp only [hx] at h;cases h
     have ⟨n1,n2⟩:=list_fits l x1;have n3 : (toks (E.ofList l)).length + 1 + bytes r≤bytes r1.tail:=by
      rcases x2 with⟨rfl,x2⟩|⟨x2,x3⟩
      ·simp [E.ofList,toks];omega
      ·cases l with
       | nil=>exact absurd rfl x2
       | cons y l=>have:=toks_cost y l;simp only [E.ofList,E.cost,if_true] at *;omega
     obtain⟨f1,f2⟩:=fits_top (d:=d + 1) (x:=.app (hd z ts) q.1 q.2 (E.ofList l)) ⟨⟨q1.1,q1.2,n1,ofList_isL l⟩,trivial⟩ rfl (by rw [need];omega);refine⟨f1,?_,x3⟩;rw [f2,toks];simp only [List.length_append,List.length_cons,List.length_nil] at *;omega
   ·cases h
    obtain⟨f1,f2⟩:=fits_top (d:=d + 1) (x:=.var (hd z ts) q.1 q.2) ⟨⟨q1.1,q1.2⟩,trivial⟩ rfl (by rw [need];omega);exact⟨f1,by rw [f2,toks];exact q2,q3⟩
theorem one_sp (z:Nat) : ∀ d,Sp (one z d) (Fits d 5) (costW 5)
 | 0=>by intro ts a r _ h;cases h
 | d + 1=>by
  intro ts a r hg h;have ih:=one_sp z d;have hex:Sp (expr z (one z d) 5) (Fits d 0) (costW 0):=expr_sp ih 5 (Nat.le_refl _);have un : ∀ (s:List UInt8),(s=[45]∨s=[110,111,116])→see s ts=true→(match one z d ts.tail with | .bad e p=>R.bad e p | .ok x r=>.ok (.un (hd z ts) s x) r)=R.ok a r→Fits (d + 1) 5 a∧costW 5 a + bytes r≤bytes ts∧Good r:=by
   intro s hs h1 h;have hc:=see_cost hg h1;have hl : 1≤s.length:=by rcases hs with rfl|rfl <;> simp
   cases hx : one z d ts.tail with
   | bad e p=>simp only [hx] at h;cases h
   | ok x r1=>
    obtain⟨x1,x2,x3⟩:=ih _ _ _ hc.2 hx;simp only [hx] at h;cases h
    obtain⟨f1,f2⟩:=fits_top (d:=d + 1) (x:=.un (hd z ts) s x) ⟨⟨hs,x1.1⟩,trivial⟩ rfl (by rw [need];have:=x1.2;omega);refine⟨f1,?_,x3⟩;rw [f2,toks,List.length_cons];rw [costW] at x2;omega
  rw [one] at h
  dsimp only at h
  split at h
  ·rename_i h1;exact un _ (.inl rfl) h1 h
  ·split at h
   ·rename_i h1;exact un _ (.inr rfl) h1 h
   ·split at h
    ·rename_i h1
     have hc:=see_cost hg h1;cases hx : expr z (one z d) 5 ts.tail with
     | bad e p=>simp only [hx] at h;cases h
     | ok x r1=>
      obtain⟨x1,x2,x3⟩:=hex _ _ _ hc.2 hx;simp only [hx] at h;cases hm : must z [41] r1 with
      | bad e p=>simp only [hm] at h;cases h
      | ok u r2=>
       have m1:=must_sp x3 hm;simp only [hm] at h;cases h
       have ⟨n1,c1⟩:=fits0 x1;refine⟨⟨x1.1,?_⟩,?_,m1.2⟩
       ·rw [needW];split <;> omega
       ·have:=within_len 5 a (toks a)
        rw [costW];simp only [List.length_cons,List.length_nil] at *;omega
    ·cases ts with
     | nil=>exact named_sp hex _ _ _ hg h
     | cons t ts=>
      simp only at h;split at h
      ·rename_i hk
       cases hn : number z 9223372036854775807 (t :: ts) with
       | bad e p=>simp only [hn] at h;cases h
       | ok n r1=>
        obtain⟨a1,a2,a3⟩:=number_sp _ _ _ hg hn;simp only [hn] at h;cases h
        obtain⟨f1,f2⟩:=fits_top (d:=d + 1) (x:=.num t.pos n) ⟨a1,trivial⟩ rfl (by rw [need];omega);exact⟨f1,by rw [f2,toks];exact a2,a3⟩
      ·exact named_sp hex _ _ _ hg h
theorem ex0_sp (z:Nat):Sp (ex0 z) (Fits 11 0) (costW 0):=expr_sp (one_sp z 11) 5 (Nat.le_refl _)
end Go.Mq.Tree
namespace Go.Mq.Tree
open Go Go.RowKit Go.Mq
def WFS:Nat→S→Prop
 | _,.nil=>True
 | d,.set _ n i v r=>Nm n∧(∀ x,i=some x→Fits 10 0 x)∧Fits 11 0 v∧WFS d r
 | d,.ifs _ v t e r=>Fits 11 0 v∧((0 < d∧WFS (d - 1) t)∧0 < d∧WFS (d - 1) e)∧WFS d r
 | d,.whil _ v t r=>Fits 11 0 v∧(0 < d∧WFS (d - 1) t)∧WFS d r
 | d,.ret _ v r=>Fits 11 0 v∧WFS d r
 | d,.wri _ v r=>Fits 11 0 v∧WFS d r
 | d,.call _ v r=>(Fits 11 5 v ∧ ∃ p m n l,v = .app p m n l)∧WFS d r
abbrev BQ (d:Nat) (s:S):Prop:=0 < d∧WFS (d - 1) s
def indexK:Option E→List (List UInt8)
 | some x=>[91] :: (toks x ++ [[93]])
 | none=>[]
def stmtK:S→List (List UInt8)
 | .nil=>[]
 | .set _ n i v r=>n :: (indexK i ++ [58,61] :: (toks v ++ [59] :: stmtK r))
 | .ret _ v r=>[114,101,116,117,114,110] :: (toks v ++ [59] :: stmtK r)
 | .wri _ v r=>[119,114,105,116,101] :: (toks v ++ [59] :: stmtK r)
 | .call _ v r=>toks v ++ [59] :: stmtK r
 | .whil _ v t r=>[119,104,105,108,101] :: (toks v ++ [100,111] :: (stmtK t ++ [101,110,100] :: [59] :: stmtK r))
 | .ifs _ v t e r=>[105,102] :: (toks v ++ [116,104,101,110] :: (stmtK t ++ ((if e.isNil then [] else [101,108,115,101] :: stmtK e) ++ [101,110,100] :: [59] :: stmtK r)))
theorem WFS_app : ∀ (d:Nat) (l s:S),WFS d l→WFS d s→WFS d (l.app s)
 | _,.nil,_,_,h=>h
 | d,.set _ _ _ _ r,s,h,hs=>⟨h.1,h.2.1,h.2.2.1,WFS_app d r s h.2.2.2 hs⟩
 | d,.ifs _ _ _ _ r,s,h,hs=>⟨h.1,h.2.1,WFS_app d r s h.2.2 hs⟩
 | d,.whil _ _ _ r,s,h,hs=>⟨h.1,h.2.1,WFS_app d r s h.2.2 hs⟩
 | d,.ret _ _ r,s,h,hs=>⟨h.1,WFS_app d r s h.2 hs⟩
 | d,.wri _ _ r,s,h,hs=>⟨h.1,WFS_app d r s h.2 hs⟩
 | d,.call _ _ r,s,h,hs=>⟨h.1,WFS_app d r s h.2 hs⟩
theorem stmtK_app : ∀ (l s:S),stmtK (l.app s)=stmtK l ++ stmtK s
 | .nil,_=>rfl
 | .set _ _ _ _ r,s=>by simp [S.app,stmtK,stmtK_app r s]
 | .ifs _ _ _ _ r,s=>by simp [S.app,stmtK,stmtK_app r s]
 | .whil _ _ _ r,s=>by simp [S.app,stmtK,stmtK_app r s]
 | .ret _ _ r,s=>by simp [S.app,stmtK,stmtK_app r s]
 | .wri _ _ r,s=>by simp [S.app,stmtK,stmtK_app r s]
 | .call _ _ r,s=>by simp [S.app,stmtK,stmtK_app r s]
def Sp1 {α:Type} (p:Ps α) (Q : α→Prop) (c : α→Nat):Prop:=∀ ts a r,Good ts→p ts = .ok a r→Q a∧c a + bytes r≤bytes ts + 1∧Good r
def costR (x:E × S × S):Nat:=(toks x.1).length + 1 + (stmtK x.2.1).length + (if x.2.2.isNil then 0 else (stmtK x.2.2).length + 1)
theorem ex0_is {z:Nat} {ts r:List Tok} {x:E} (hg:Good ts) (h : ex0 z ts = .ok x r):Fits 11 0 x∧(toks x).length + bytes r≤bytes ts∧Good r:=by
 obtain⟨h1,h2,h3⟩:=ex0_sp z _ _ _ hg h;have:=(fits0 h1).2;exact⟨h1,by omega,h3⟩
theorem first_sp (z d p:Nat):Sp1 (first z p) (WFS d) (fun s=>(stmtK s).length):=by
 intro ts a r hg h;rw [first] at h;cases hn : named z (expr z (one z 10) 5) ts with
 | bad e q=>simp only [hn] at h;cases h
 | ok e r1=>
  obtain⟨e1,e2,e3⟩:=named_sp (d:=10) (expr_sp (one_sp z 10) 5 (Nat.le_refl _)) _ _ _ hg hn;have set : ∀ (n:List UInt8) (i:Option E),Nm n→(∀ x,i=some x→Fits 10 0 x)→1 + (indexK i).length + bytes r1≤bytes ts →
    (match must z [58,61] r1 with | .bad e q=>R.bad e q | .ok _ r2=>match ex0 z r2 with | .bad e q=>.bad e q | .ok v r3=>.ok (.set p n i v .nil) r3)=R.ok a r→WFS d a∧(stmtK a).length + bytes r≤bytes ts + 1∧Good r:=by
   intro n i hn hi hb h;cases hm : must z [58,61] r1 with
   | bad e q=>simp only [hm] at h;cases h
   | ok u r2=>
    have m1:=must_sp e3 hm;simp only [hm] at h;cases hx : ex0 z r2 with
    | bad e q=>simp only [hx] at h;cases h
    | ok v r3=>
     obtain⟨x1,x2,x3⟩:=ex0_is m1.2 hx;simp only [hx] at h;cases h
     refine⟨⟨hn,hi,x1,trivial⟩,?_,x3⟩;simp only [stmtK,List.length_cons,List.length_append,List.length_nil] at *;omega
  cases e with
  | app a2 m n l=>
   simp only [hn] at h;cases h
   refine⟨⟨⟨e1,_,_,_,_,rfl⟩,trivial⟩,?_,e3⟩;rw [costW,withinK,if_pos (show 5≤lvl (E.app a2 m n l) from Nat.le_refl 5)] at e2;simp only [stmtK,List.length_append,List.length_cons,List.length_nil];omega
  | item a2 m n i=>
   simp only [hn] at h;split at h
   ·cases h
   ·rename_i hm
    have hm : m=[]:=Classical.not_not.mp hm;subst hm;have hd:=e1.2;rw [needW,if_pos (show 5≤lvl (E.item a2 [] n i) from Nat.le_refl 5),need] at hd;rw [costW,withinK,if_pos (show 5≤lvl (E.item a2 [] n i) from Nat.le_refl 5)] at e2;refine set n (some i) e1.1.1.2.1 ?_ ?_ h
    ·intro x hx;cases hx;exact⟨e1.1.1.2.2,by rw [needW,if_pos (Nat.zero_le _)];omega⟩
    ·simp only [toks,qualK,indexK,if_true,List.length_append,List.length_cons,List.length_nil] at *;omega
  | var a2 m n=>
   simp only [hn] at h;split at h
   ·cases h
   ·rename_i hm
    have hm : m=[]:=Classical.not_not.mp hm;subst hm;rw [costW,withinK,if_pos (show 5≤lvl (E.var a2 [] n) from Nat.le_refl 5)] at e2;refine set n none e1.1.1.2 (by intro x hx;cases hx) ?_ h;simp only [toks,qualK,indexK,if_true,List.length_cons,List.length_nil] at *;omega
  | num _ _=>simp only [hn] at h;cases h
  | un _ _ _=>simp only [hn] at h;cases h
  | bin _ _ _ _=>simp only [hn] at h;cases h
  | nil=>simp only [hn] at h;cases h
  | cons _ _=>simp only [hn] at h;cases h
abbrev RQ (d:Nat) (x:E × S × S):Prop:=Fits 11 0 x.1∧BQ d x.2.1∧BQ d x.2.2
theorem restL_sp {z d:Nat} {bd:Ps S} {more:Ps (E × S × S)} (hb:Sp bd (BQ d) (fun s=>(stmtK s).length)) (hm:Sp more (fun x=>0 < d∧RQ (d - 1) x) costR):Sp (restL z bd more) (RQ d) costR:=by
 intro ts a r hg h;rw [restL] at h;cases h1 : ex0 z ts with
 | bad e q=>simp only [h1] at h;cases h
 | ok v r1=>
  obtain⟨a1,a2,a3⟩:=ex0_is hg h1;simp only [h1] at h;cases h2 : must z [116,104,101,110] r1 with
  | bad e q=>simp only [h2] at h;cases h
  | ok u r2=>
   have m1:=must_sp a3 h2;simp only [h2] at h;cases h3 : bd r2 with
   | bad e q=>simp only [h3] at h;cases h
   | ok t r3=>
    obtain⟨b1,b2,b3⟩:=hb _ _ _ m1.2 h3
    replace b2 : (stmtK t).length + bytes r3≤bytes r2:=b2
    simp only [h3] at h;split at h
    ·rename_i hs
     have hc:=see_cost b3 hs;cases h4 : more r3.tail with
     | bad e q=>simp only [h4] at h;cases h
     | ok x r4=>
      obtain⟨c1,c2,c3⟩:=hm _ _ _ hc.2 h4;simp only [h4] at h;cases h
      refine⟨⟨a1,b1,c1.1,c1.2.1,⟨c1.2.2.1,c1.2.2.2⟩,trivial⟩,?_,c3⟩;rw [costR] at c2 ⊢;have e1 : ((if x.2.2.isNil then [] else [101,108,115,101] :: stmtK x.2.2):List (List UInt8)).length=(if x.2.2.isNil then 0 else (stmtK x.2.2).length + 1):=by split <;> rfl
      simp only [stmtK,S.isNil,List.length_cons,List.length_append,List.length_nil,e1] at *;simp only [Bool.false_eq_true,if_false];omega
    ·split at h
     ·rename_i hs
      have hc:=see_cost b3 hs;cases h4 : bd r3.tail with
      | bad e q=>simp only [h4] at h;cases h
      | ok e2 r4=>
       obtain⟨c1,c2,c3⟩:=hb _ _ _ hc.2 h4
       replace c2 : (stmtK e2).length + bytes r≤bytes r3.tail:=by simp only [h4] at h;cases h;exact c2
       simp only [h4] at h;cases h
       refine⟨⟨a1,b1,c1⟩,?_,c3⟩;rw [costR];simp only [List.length_cons,List.length_nil] at *;split <;> omega
     ·cases h
      refine⟨⟨a1,b1,b1.1,trivial⟩,?_,b3⟩;rw [costR];simp only [S.isNil,if_true,List.length_cons,List.length_nil] at *;omega
theorem stmt_sp {z d:Nat} {bd:Ps S} {rest:Ps (E × S × S)} (hb:Sp bd (BQ d) (fun s=>(stmtK s).length)) (hr:Sp rest (RQ d) costR):Sp1 (stmt z bd rest) (WFS d) (fun s=>(stmtK s).length):=by
 intro ts a r hg h;rw [stmt] at h;split at h
 ·rename_i hs
  have hc:=see_cost hg hs;cases h1 : rest ts.tail with
  | bad e q=>simp only [h1] at h;cases h
  | ok x r1=>
   obtain⟨a1,a2,a3⟩:=hr _ _ _ hc.2 h1;simp only [h1] at h;cases h2 : must z [101,110,100] r1 with
   | bad e q=>simp only [h2] at h;cases h
   | ok u r2=>
    have m1:=must_sp a3 h2;simp only [h2] at h;cases h
    refine⟨⟨a1.1,⟨a1.2.1,a1.2.2⟩,trivial⟩,?_,m1.2⟩;rw [costR] at a2;have e1 : ((if x.2.2.isNil then [] else [101,108,115,101] :: stmtK x.2.2):List (List UInt8)).length=(if x.2.2.isNil then 0 else (stmtK x.2.2).length + 1):=by split <;> rfl
    simp only [stmtK,List.length_cons,List.length_append,List.length_nil,e1] at *;omega
 ·split at h
  ·rename_i hs
   have hc:=see_cost hg hs;cases h1 : ex0 z ts.tail with
   | bad e q=>simp only [h1] at h;cases h
   | ok v r1=>
    obtain⟨a1,a2,a3⟩:=ex0_is hc.2 h1;simp only [h1] at h;cases h2 : must z [100,111] r1 with
    | bad e q=>simp only [h2] at h;cases h
    | ok u r2=>
     have m1:=must_sp a3 h2;simp only [h2] at h;cases h3 : bd r2 with
     | bad e q=>simp only [h3] at h;cases h
     | ok t r3=>
      obtain⟨b1,b2,b3⟩:=hb _ _ _ m1.2 h3;simp only [h3] at h;cases h4 : must z [101,110,100] r3 with
      | bad e q=>simp only [h4] at h;cases h
      | ok u r4=>
       have m2:=must_sp b3 h4;simp only [h4] at h;cases h
       refine⟨⟨a1,b1,trivial⟩,?_,m2.2⟩;simp only [stmtK,List.length_cons,List.length_append,List.length_nil] at *;omega
  ·split at h
   ·rename_i hs
    have hc:=see_cost hg hs;cases h1 : ex0 z ts.tail with
    | bad e q=>simp only [h1] at h;cases h
    | ok v r1=>
     obtain⟨a1,a2,a3⟩:=ex0_is hc.2 h1;simp only [h1] at h;cases h
     refine⟨⟨a1,trivial⟩,?_,a3⟩;simp only [stmtK,List.length_cons,List.length_append,List.length_nil] at *;omega
   ·split at h
    ·rename_i hs
     have hc:=see_cost hg hs;cases h1 : ex0 z ts.tail with
     | bad e q=>simp only [h1] at h;cases h
     | ok v r1=>
      obtain⟨a1,a2,a3⟩:=ex0_is hc.2 h1;simp only [h1] at h;cases h
      refine⟨⟨a1,trivial⟩,?_,a3⟩;simp only [stmtK,List.length_cons,List.length_append,List.length_nil] at *;omega
    ·exact first_sp z d _ _ _ _ hg h
theorem bodyL_sp {z d:Nat} {st:Ps S} (hs:Sp1 st (WFS d) (fun s=>(stmtK s).length)) : ∀ (f:Nat) (l:S) (ts:List Tok) (a:S) (r:List Tok),Good ts→WFS d l→bodyL z st f l ts = .ok a r→WFS d a∧(stmtK a).length + bytes r≤(stmtK l).length + bytes ts∧Good r
 | 0,_,_,_,_,_,_,h=>by cases h
 | f + 1,l,ts,a,r,hg,hl,h=>by
  rw [bodyL] at h;split at h
  ·cases h;exact⟨hl,Nat.le_refl _,hg⟩
  ·cases h1 : st ts with
   | bad e q=>simp only [h1] at h;cases h
   | ok s r1=>
    obtain⟨a1,a2,a3⟩:=hs _ _ _ hg h1
    replace a2 : (stmtK s).length + bytes r1≤bytes ts + 1:=a2
    simp only [h1] at h;cases h2 : must z [59] r1 with
    | bad e q=>simp only [h2] at h;cases h
    | ok u r2=>
     have m1:=must_sp a3 h2;simp only [h2] at h;obtain⟨b1,b2,b3⟩:=bodyL_sp hs f _ _ _ _ m1.2 (WFS_app d l s hl a1) h;rw [stmtK_app,List.length_append] at b2;simp only [List.length_cons,List.length_nil] at m1;exact⟨b1,by omega,b3⟩
theorem bodies_sp (z:Nat) : ∀ d,Sp (bodies z d).1 (BQ d) (fun s=>(stmtK s).length)∧Sp (bodies z d).2 (fun x=>0 < d∧RQ (d - 1) x) costR
 | 0=>⟨fun ts a r _ h=>(by cases h),fun ts a r _ h=>(by cases h)⟩
 | d + 1=>by
  obtain⟨h1,h2⟩:=bodies_sp z d;have hr:=restL_sp (z:=z) h1 h2;refine⟨fun ts a r hg h=>?_,fun ts a r hg h=>?_⟩
  ·obtain⟨a1,a2,a3⟩:=bodyL_sp (stmt_sp (z:=z) h1 hr) _ .nil _ _ _ hg trivial h
   exact⟨⟨Nat.succ_pos _,a1⟩,by simpa [stmtK] using a2,a3⟩
  ·obtain⟨a1,a2,a3⟩:=hr _ _ _ hg h
   exact⟨⟨Nat.succ_pos _,a1⟩,a2,a3⟩
theorem body0_sp (z:Nat):Sp (body0 z) (WFS 10) (fun s=>(stmtK s).length):=fun ts a r hg h=>by
 obtain⟨a1,a2,a3⟩:=(bodies_sp z 11).1 ts a r hg h;exact⟨a1.2,a2,a3⟩
structure WFG (g:Glob):Prop where
 name:Nm g.name
 low : 0≤g.len
 high : g.len≤30
structure WFP (x:Proc):Prop where
 name:Nm x.name
 params : ∀ n∈x.params,Nm n
 few : x.params.length≤10
 vars : ∀ n∈x.vars,Nm n
 room : x.vars.length≤10 - x.params.length
 body:WFS 10 x.body
structure WFM (m:Mod):Prop where
 name:Nm m.name
 imports : ∀ n∈m.imports,Nm n
 few : m.imports.length≤6
 vars : ∀ g∈m.vars,WFG g
 fewv : m.vars.length≤10
 procs : ∀ x∈m.procs,WFP x
 fewp : m.procs.length≤10
 body:WFS 10 m.body
def namesK:List (List UInt8)→List (List UInt8)
 | []=>[]
 | [n]=>[n]
 | n :: m :: r=>n :: [44] :: namesK (m :: r)
def starK (b:Bool):List (List UInt8):=if b then [[42]] else []
def globK (g:Glob):List (List UInt8):=[118,97,114] :: g.name :: (starK g.seen ++ [58] :: ((if 0 < g.len then [[97,114,114,97,121],Lib.itoa g.len] else [[105,110,116]]) ++ [[59]]))
def headK (s:List UInt8) (l:List (List UInt8)):List (List UInt8):=if l=[] then [] else s :: (namesK l ++ [[59]])
def procK (x:Proc):List (List UInt8):=[112,114,111,99] :: x.name :: (starK x.seen ++ [40] :: (namesK x.params ++ [41] :: [59] :: (headK [118,97,114] x.vars ++ [98,101,103,105,110] :: (stmtK x.body ++ [[101,110,100],[59]]))))
def modK (m:Mod):List (List UInt8):=[109,111,100,117,108,101] :: m.name :: [59] :: (headK [105,109,112,111,114,116] m.imports ++ (m.vars.flatMap globK ++ (m.procs.flatMap procK ++ [98,101,103,105,110] :: (stmtK m.body ++ [[101,110,100],[46]]))))
theorem namesK_len : ∀ (l:List (List UInt8)),l≠[]→(namesK l).length + 1=2 * l.length
 | [n],_=>rfl
 | n :: m :: r,_=>by have:=namesK_len (m :: r) (by simp);simp only [namesK,List.length_cons] at *;omega
theorem skip_cost {s:List UInt8} {ts:List Tok} (hg:Good ts) (hs : s≠[]) : (starK (see s ts)).length + bytes (skip s ts)≤bytes ts∧Good (skip s ts):=by
 rw [skip];cases h : see s ts with
 | false=>simp [starK,hg]
 | true=>
  have:=see_cost hg h;have : 1≤s.length:=by cases s with|nil=>exact absurd rfl hs|cons _ _=>simp
  simp [starK]
  exact⟨by omega,(see_cost hg h).2⟩
theorem kindOf_sp (z:Nat):Sp (kindOf z) (fun n=>0≤n∧n≤30) (fun n=>if 0 < n then 2 else 1):=by
 intro ts n r hg h;rw [kindOf] at h;split at h
 ·rename_i hs
  have hc:=see_cost hg hs;cases hn : number z 30 ts.tail with
  | bad e q=>simp only [hn] at h;cases h
  | ok n' r1=>
   obtain⟨a1,a2,a3⟩:=number_sp _ _ _ hc.2 hn
   replace a2 : 1 + bytes r1≤bytes ts.tail:=a2
   simp only [hn] at h;split at h
   ·cases h
   ·cases h
    refine⟨a1,?_,a3⟩;simp only [List.length_cons,List.length_nil] at hc
    show (if 0 < n then 2 else 1) + _≤_
    split <;> omega
 ·cases hm : must z [105,110,116] ts with
  | bad e q=>simp only [hm] at h;cases h
  | ok u r1=>
   have m1:=must_sp hg hm;simp only [hm] at h;cases h
   simp only [List.length_cons,List.length_nil] at m1;exact⟨⟨by omega,by omega⟩,by show 1 + _≤_;omega,m1.2⟩
theorem glob_sp (z:Nat) : ∀ ts g r,Good ts→glob z ts = .ok g r→WFG g∧(globK g).length + bytes r≤bytes ts + 1∧Good r:=by
 intro ts g r hg h;rw [glob] at h;cases h1 : name z ts with
 | bad e q=>simp only [h1] at h;cases h
 | ok n r1=>
  obtain⟨a1,a2,a3⟩:=name_sp _ _ _ hg h1
  replace a2 : 1 + bytes r1≤bytes ts:=a2
  simp only [h1] at h;have hk:=skip_cost (s:=[42]) a3 (by simp);cases h2 : must z [58] (skip [42] r1) with
  | bad e q=>simp only [h2] at h;cases h
  | ok u r2=>
   have m1:=must_sp hk.2 h2;simp only [h2] at h;cases h3 : kindOf z r2 with
   | bad e q=>simp only [h3] at h;cases h
   | ok k r3=>
    obtain⟨b1,b2,b3⟩:=kindOf_sp z _ _ _ m1.2 h3
    replace b2 : (if 0 < k then 2 else 1) + bytes r3≤bytes r2:=b2
    simp only [h3] at h;cases h4 : must z [59] r3 with
    | bad e q=>simp only [h4] at h;cases h
    | ok u r4=>
     have m2:=must_sp b3 h4;simp only [h4] at h;cases h
     refine⟨⟨a1,b1.1,b1.2⟩,?_,m2.2⟩;have e1 : ((if 0 < k then [[97,114,114,97,121],Lib.itoa k] else [[105,110,116]]):List (List UInt8)).length=if 0 < k then 2 else 1:=by split <;> rfl
     simp only [globK,List.length_cons,List.length_append,List.length_nil,e1] at *;omega
theorem varsL_sp (z:Nat) : ∀ (f:Nat) (l:List Glob) (ts:List Tok) (a:List Glob) (r:List Tok),Good ts→(∀ g∈l,WFG g)→l.length≤10→varsL z f l ts = .ok a r→(∀ g∈a,WFG g)∧a.length≤10∧(a.flatMap globK).length + bytes r≤(l.flatMap globK).length + bytes ts∧Good r
 | 0,_,_,_,_,_,_,_,h=>by cases h
 | f + 1,l,ts,a,r,hg,hl,hn,h=>by
  rw [varsL] at h;split at h
  ·rename_i hs
   have hc:=see_cost hg hs;split at h
   ·cases h
   ·cases h1 : glob z ts.tail with
    | bad e q=>simp only [h1] at h;cases h
    | ok g r1=>
     obtain⟨a1,a2,a3⟩:=glob_sp z _ _ _ hc.2 h1;simp only [h1] at h;obtain⟨b1,b2,b3,b4⟩:=varsL_sp z f _ _ _ _ a3 (by
      intro x hx;rcases List.mem_append.mp hx with hx|hx
      ·exact hl x hx
      ·simp at hx;subst hx;exact a1) (by simp;omega) h
     refine⟨b1,b2,?_,b4⟩;simp only [List.flatMap_append,List.flatMap_cons,List.flatMap_nil,List.append_nil,List.length_append,List.length_cons,List.length_nil] at *;omega
  ·cases h;exact⟨hl,hn,Nat.le_refl _,hg⟩
theorem params_sp (z:Nat) : ∀ ts l r,Good ts→params z ts = .ok l r→(∀ n∈l,Nm n)∧l.length≤10∧(namesK l).length + 1 + bytes r≤bytes ts∧Good r:=by
 intro ts l r hg h;rw [params] at h;split at h
 ·rename_i hs
  have hc:=see_cost hg hs;cases h
  simp only [List.length_cons,List.length_nil] at hc;exact⟨by simp,by simp,by simp [namesK];omega,hc.2⟩
 ·cases h1 : names z 10 ts with
  | bad e q=>simp only [h1] at h;cases h
  | ok l' r1=>
   obtain⟨a1,a2,a3,a4,a5⟩:=names_sp hg h1;simp only [h1] at h;cases h2 : must z [41] r1 with
   | bad e q=>simp only [h2] at h;cases h
   | ok u r2=>
    have m1:=must_sp a5 h2;simp only [h2] at h;cases h
    have:=namesK_len l a3;simp only [List.length_cons,List.length_nil] at m1;exact⟨a1,a2,by omega,m1.2⟩
theorem head_sp {z most:Nat} {s:List UInt8} {ts:List Tok} {l:List (List UInt8)} {r:List Tok} (hs : s≠[]) (hg:Good ts) (h : (if see s ts then match names z most ts.tail with
  | .bad e p=>.bad e p
  | .ok l r=>match must z [59] r with
   | .bad e p=>.bad e p
   | .ok _ r2=>.ok l r2
 else R.ok [] ts) = .ok l r) : (∀ n∈l,Nm n)∧l.length≤most∧(headK s l).length + bytes r≤bytes ts∧Good r:=by
 split at h
 ·rename_i h0
  have hc:=see_cost hg h0;have hl : 1≤s.length:=by cases s with|nil=>exact absurd rfl hs|cons _ _=>simp
  cases h1 : names z most ts.tail with
  | bad e q=>simp only [h1] at h;cases h
  | ok l' r1=>
   obtain⟨a1,a2,a3,a4,a5⟩:=names_sp hc.2 h1;simp only [h1] at h;cases h2 : must z [59] r1 with
   | bad e q=>simp only [h2] at h;cases h
   | ok u r2=>
    have m1:=must_sp a5 h2;simp only [h2] at h;cases h
    have:=namesK_len l a3;refine⟨a1,a2,?_,m1.2⟩;rw [headK,if_neg a3];simp only [List.length_cons,List.length_append,List.length_nil] at *;omega
 ·cases h;exact⟨by simp,by simp,by simp [headK],hg⟩
theorem block_sp (z:Nat) {m:List UInt8} (hm : m.length=1) : ∀ ts b r,Good ts→block z m ts = .ok b r→WFS 10 b∧(stmtK b).length + 3 + bytes r≤bytes ts∧Good r:=by
 intro ts b r hg h;rw [block] at h;cases h1 : must z [98,101,103,105,110] ts with
 | bad e q=>simp only [h1] at h;cases h
 | ok u r1=>
  have m1:=must_sp hg h1;simp only [h1] at h;cases h2 : body0 z r1 with
  | bad e q=>simp only [h2] at h;cases h
  | ok s r2=>
   obtain⟨a1,a2,a3⟩:=body0_sp z _ _ _ m1.2 h2
   replace a2 : (stmtK s).length + bytes r2≤bytes r1:=a2
   simp only [h2] at h;cases h3 : must z [101,110,100] r2 with
   | bad e q=>simp only [h3] at h;cases h
   | ok u r3=>
    have m2:=must_sp a3 h3;simp only [h3] at h;cases h4 : must z m r3 with
    | bad e q=>simp only [h4] at h;cases h
    | ok u r4=>
     have m3:=must_sp m2.2 h4;simp only [h4] at h;cases h
     simp only [List.length_cons,List.length_nil] at m1 m2 m3;exact⟨a1,by omega,m3.2⟩
theorem proc_sp (z:Nat) : ∀ ts x r,Good ts→proc z ts = .ok x r→WFP x∧(procK x).length + bytes r≤bytes ts∧Good r:=by
 intro ts x r hg h;rw [proc] at h;cases h1 : must z [112,114,111,99] ts with
 | bad e q=>simp only [h1] at h;cases h
 | ok u r1=>
  have m1:=must_sp hg h1;simp only [h1] at h;cases h2 : name z r1 with
  | bad e q=>simp only [h2] at h;cases h
  | ok n r2=>
   obtain⟨a1,a2,a3⟩:=name_sp _ _ _ m1.2 h2
   replace a2 : 1 + bytes r2≤bytes r1:=a2
   simp only [h2] at h;have hk:=skip_cost (s:=[42]) a3 (by simp);cases h3 : must z [40] (skip [42] r2) with
   | bad e q=>simp only [h3] at h;cases h
   | ok u r3=>
    have m2:=must_sp hk.2 h3;simp only [h3] at h;cases h4 : params z r3 with
    | bad e q=>simp only [h4] at h;cases h
    | ok ps r4=>
     obtain⟨b1,b2,b3,b4⟩:=params_sp z _ _ _ m2.2 h4;simp only [h4] at h;cases h5 : must z [59] r4 with
     | bad e q=>simp only [h5] at h;cases h
     | ok u r5=>
      have m3:=must_sp b4 h5;simp only [h5] at h;cases h6 : locals z (10 - ps.length) r5 with
      | bad e q=>simp only [h6] at h;cases h
      | ok vs r6=>
       obtain⟨c1,c2,c3,c4⟩:=head_sp (s:=[118,97,114]) (by simp) m3.2 h6;simp only [h6] at h;cases h7 : block z [59] r6 with
       | bad e q=>simp only [h7] at h;cases h
       | ok b r7=>
        obtain⟨d1,d2,d3⟩:=block_sp z rfl _ _ _ c4 h7;simp only [h7] at h;cases h
        refine⟨⟨a1,b1,b2,c1,c2,d1⟩,?_,d3⟩;simp only [procK,List.length_cons,List.length_append,List.length_nil] at *;omega
theorem procsL_sp (z:Nat) : ∀ (f:Nat) (l:List Proc) (ts:List Tok) (a:List Proc) (r:List Tok),Good ts→(∀ g∈l,WFP g)→l.length≤10→procsL z f l ts = .ok a r→(∀ g∈a,WFP g)∧a.length≤10∧(a.flatMap procK).length + bytes r≤(l.flatMap procK).length + bytes ts∧Good r
 | 0,_,_,_,_,_,_,_,h=>by cases h
 | f + 1,l,ts,a,r,hg,hl,hn,h=>by
  rw [procsL] at h;split at h
  ·split at h
   ·cases h
   ·cases h1 : proc z ts with
    | bad e q=>simp only [h1] at h;cases h
    | ok g r1=>
     obtain⟨a1,a2,a3⟩:=proc_sp z _ _ _ hg h1;simp only [h1] at h;obtain⟨b1,b2,b3,b4⟩:=procsL_sp z f _ _ _ _ a3 (by
      intro x hx;rcases List.mem_append.mp hx with hx|hx
      ·exact hl x hx
      ·simp at hx;subst hx;exact a1) (by simp;omega) h
     refine⟨b1,b2,?_,b4⟩;simp only [List.flatMap_append,List.flatMap_cons,List.flatMap_nil,List.append_nil,List.length_append] at *;omega
  ·cases h;exact⟨hl,hn,Nat.le_refl _,hg⟩
theorem module_sp (z:Nat) : ∀ ts m r,Good ts→module_ z ts = .ok m r→WFM m∧(modK m).length + bytes r≤bytes ts∧Good r:=by
 intro ts m r hg h;rw [module_] at h;cases h1 : must z [109,111,100,117,108,101] ts with
 | bad e q=>simp only [h1] at h;cases h
 | ok u r1=>
  have m1:=must_sp hg h1;simp only [h1] at h;cases h2 : name z r1 with
  | bad e q=>simp only [h2] at h;cases h
  | ok n r2=>
   obtain⟨a1,a2,a3⟩:=name_sp _ _ _ m1.2 h2
   replace a2 : 1 + bytes r2≤bytes r1:=a2
   simp only [h2] at h;cases h3 : must z [59] r2 with
   | bad e q=>simp only [h3] at h;cases h
   | ok u r3=>
    have m2:=must_sp a3 h3;simp only [h3] at h;cases h4 : imports z r3 with
    | bad e q=>simp only [h4] at h;cases h
    | ok is r4=>
     obtain⟨b1,b2,b3,b4⟩:=head_sp (s:=[105,109,112,111,114,116]) (by simp) m2.2 h4;simp only [h4] at h;cases h5 : varsL z 11 [] r4 with
     | bad e q=>simp only [h5] at h;cases h
     | ok vs r5=>
      obtain⟨c1,c2,c3,c4⟩:=varsL_sp z _ _ _ _ _ b4 (by simp) (by simp) h5;simp only [h5] at h;cases h6 : procsL z 11 [] r5 with
      | bad e q=>simp only [h6] at h;cases h
      | ok ps r6=>
       obtain⟨d1,d2,d3,d4⟩:=procsL_sp z _ _ _ _ _ c4 (by simp) (by simp) h6;simp only [h6] at h;cases h7 : block z [46] r6 with
       | bad e q=>simp only [h7] at h;cases h
       | ok b r7=>
        obtain⟨e1,e2,e3⟩:=block_sp z rfl _ _ _ d4 h7;simp only [h7] at h;cases h
        refine⟨⟨a1,b1,b2,c1,c2,d1,d2,e1⟩,?_,e3⟩;simp only [modK,List.length_cons,List.length_append,List.length_nil,List.flatMap_nil] at *;omega
theorem parse_sp {l:List UInt8} {m:Mod} (h : parse l = .ok m):WFM m∧(modK m).length≤l.length:=by
 rw [parse] at h;cases hl : lex l with
 | bad e p=>simp only [hl] at h;cases h
 | ok ts=>
  have h1:=lexL_good _ _ _ _ _ hl;simp only [hl] at h;cases hm : module_ l.length ts with
  | bad e p=>simp only [hm] at h;cases h
  | ok m' r=>
   obtain⟨a1,a2,_⟩:=module_sp _ _ _ _ h1.1 hm;simp only [hm] at h;cases r with
   | nil=>cases h;exact⟨a1,by omega⟩
   | cons t r=>cases h
end Go.Mq.Tree
namespace Go.Mq.Tree
open Go Go.RowKit Go.Mq
def Beg:List (List UInt8)→List Tok→List Tok→Prop
 | [],ts,r=>ts=r
 | s :: K,ts,r=>∃ p ts',ts=⟨kindT s,s,p⟩ :: ts'∧Beg K ts' r
theorem dec_digits : ∀ u:Nat,(∀ x∈Lib.decDigits u,digit x=true)∧Lib.decDigits u≠[]:=by
 intro u
 induction u using Nat.strongRecOn with
 | _ u ih=>
  have hd : ∀ v,v < 10→digit (UInt8.ofNat (48 + v))=true:=by decide
  rw [Lib.decDigits];split
  ·rename_i h;exact⟨by simpa using hd u h,by simp⟩
  ·refine⟨?_,by simp⟩
   intro x hx;rcases List.mem_append.mp hx with hx|hx
   ·exact(ih (u / 10) (by omega)).1 x hx
   ·rw [List.mem_singleton] at hx;subst hx;exact hd _ (by omega)
theorem num_append {M:Nat} : ∀ (l r:List UInt8) (acc a:Nat),Lib.parseUintM M acc l = .ok a→Lib.parseUintM M acc (l ++ r)=Lib.parseUintM M a r
 | [],r,acc,a,h=>by cases h;rfl
 | c :: l,r,acc,a,h=>by
  rw [List.cons_append,Lib.parseUintM];rw [Lib.parseUintM] at h;split at h
  ·rename_i h1
   rw [if_pos h1];split at h
   ·cases h
   ·rename_i h2
    rw [if_neg h2];split at h
    ·cases h
    ·rename_i h3
     rw [if_neg h3];exact num_append l r _ _ h
  ·cases h
theorem dec_parse {M:Nat} (hM:M≤18446744073709551615) : ∀ u:Nat,u≤M→Lib.parseUintM M 0 (Lib.decDigits u) = .ok u:=by
 intro u
 induction u using Nat.strongRecOn with
 | _ u ih=>
  intro hu;have one : ∀ acc v,v < 10→acc * 10 + v≤M→Lib.parseUintM M acc [UInt8.ofNat (48 + v)] = .ok (acc * 10 + v):=by
   intro acc v hv ha;have hn : (UInt8.ofNat (48 + v)).toNat=48 + v:=by rw [UInt8.toNat_ofNat'];omega
   rw [Lib.parseUintM,hn,if_pos (by omega),if_neg (by omega),if_neg (by omega),Lib.parseUintM]
   congr 1;omega
  rw [Lib.decDigits];split
  ·rename_i h
   have:=one 0 u h (by omega)
   simpa using this
  ·rename_i h
   rw [num_append _ _ _ _ (ih (u / 10) (by omega) (by omega)),one _ _ (by omega) (by omega)]
   congr 1;omega
theorem itoa_num {n:Int} (h : 0≤n):IsNum (Lib.itoa n):=by
 rw [Lib.itoa,if_neg (by omega)];have:=dec_digits n.toNat;cases hd:Lib.decDigits n.toNat with
 | nil=>exact absurd hd this.2
 | cons c r=>
  rw [hd] at this;exact⟨c,r,rfl,this.1 c (by simp),fun x hx=>this.1 x (by simp [hx])⟩
theorem itoa_parse {n:Int} (h : 0≤n) (h2 : n≤9223372036854775807):Lib.parseIntB 64 (Lib.itoa n) = .ok n:=by
 obtain⟨c,r,hc,hd,_⟩:=itoa_num h;have hp:Lib.parseUintM 18446744073709551615 0 (Lib.itoa n) = .ok n.toNat:=by
  rw [Lib.itoa,if_neg (by omega)];exact dec_parse (Nat.le_refl _) _ (by omega)
 rw [hc] at hp ⊢;have hd:=digit_val hd;have e : (c.toNat=45)=False:=by simp;omega
 have e2 : (c.toNat=43)=False:=by simp;omega
 unfold Lib.parseIntB
 simp only [e,e2,or_self,if_false,not_false_eq_true,true_and,false_and,Lib.parseUintB];rw [if_neg (by simp),show 2 ^ 64 - 1=18446744073709551615 from rfl,hp];simp only;rw [if_neg (by omega)]
 congr 1;omega
end Go.Mq.Tree
