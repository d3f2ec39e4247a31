/- Some texts in one. -/
import Derived.Deep.DeepCutAuto
import Derived.Deep.CutBlock
import Derived.Test.YtojkkgghndeimaaGreatDoorO9
import Derived.Test.YtojkkgghndeimaaGreatDoorO10
import Derived.Test.YtojkkgghndeimaaGreatDoorO30
namespace Go.Mq.Ref
open Go Go.RowKit Go.Mq Go.Mq.Tree
def RLexOut (w:World) (z:Nat) (r:LexR) (e:Ending) (w':World):Prop:=Chg [] w w'∧match r with
 | .ok ts=>∃ a c,e = .returned (.tuple #[.slice a (ts.length + 1) c,.agg #[num 0,num (-1)]])∧ts.length + 1≤c∧Row w' (New w w') a (toksCells z ts)∧ts.length≤600∧(∀ t∈ts,t.text.length≤4000000000) ∧ ∀ t∈ts,t.kind = .number → ∃ c r,t.text=c :: r∧c.toNat≠43∧c.toNat≠45
 | .bad en p=>e = .returned (.tuple #[nils,.agg #[num en,num p]])
theorem nextK_markN {c:UInt8} {t:List UInt8} (h : letter c=false) (h2 : digit c=false) : nextK (c :: t)=(.mark,markN (c :: t)):=by
 rw [nextK,if_neg (by simp [h]),if_neg (by simp [h2]),mark_is]
theorem nextK_digs {c:UInt8} {t:List UInt8} {n:Nat} (h : (nextK (c :: t)).1 = .number) (hn : n≠0) : ∃ c' r,(c :: t).take n=c' :: r∧c'.toNat≠43∧c'.toNat≠45:=by
 obtain ⟨n,rfl⟩ : ∃ m,n=m + 1:=⟨n - 1,by omega⟩
 refine ⟨c,t.take n,by simp,?_⟩
 rw [nextK] at h
 split at h
 ·cases h
 ·split at h
  ·next hd=>simp [digit] at hd; omega
  ·cases h
end Go.Mq.Ref
namespace Go.Proofs.YtojkkgghndeimaaGreatDoor
open Go Go.RowKit Go.Mq Go.Mq.Tree Go.Mq.Ref
set_option maxRecDepth 100000
set_option maxHeartbeats 4000000
theorem rlow_any (c:UInt8) (w:World):Calls Tryz.prog 93 #[.int .u8 c.toNat] w (fun e w'=>e = .returned (.bool (letter c))∧w'=w):=by
 obtain ⟨n,hn⟩ : ∃ n:Nat,n=c.toNat:=⟨_,rfl⟩
 have HL:=Lib.hid (show letter c=(decide (97≤n) && decide (n≤122)) by rw [letter,hn])
 rw [← hn]
 clear hn
 cases h1 : decide (97≤n) with
 | false=>
  have h1' : decide ((97:Int)≤(n:Int))=false:=by have:=of_decide_eq_false h1; simp; omega
  rw [h1] at HL
  clear h1
  go_enter Tryz.func93,Tryz.ntmps93
  go_wp2_with fail
  go_ret
  rw [HL.out]
  exact ⟨rfl,rfl⟩
 | true=>
  have h1' : decide ((97:Int)≤(n:Int))=true:=by have:=of_decide_eq_true h1; simp; omega
  have h2' : decide ((n:Int)≤122)=decide (n≤122):=by by_cases h : n≤122 <;> simp [h] <;> omega
  rw [h1] at HL
  clear h1
  go_enter Tryz.func93,Tryz.ntmps93
  go_wp2_with fail
  go_ret
  rw [HL.out,← h2']
  exact ⟨rfl,rfl⟩
theorem rdig_any (c:UInt8) (w:World):Calls Tryz.prog 94 #[.int .u8 c.toNat] w (fun e w'=>e = .returned (.bool (digit c))∧w'=w):=by
 obtain ⟨n,hn⟩ : ∃ n:Nat,n=c.toNat:=⟨_,rfl⟩
 have HL:=Lib.hid (show digit c=(decide (48≤n) && decide (n≤57)) by rw [digit,hn])
 rw [← hn]
 clear hn
 cases h1 : decide (48≤n) with
 | false=>
  have h1' : decide ((48:Int)≤(n:Int))=false:=by have:=of_decide_eq_false h1; simp; omega
  rw [h1] at HL
  clear h1
  go_enter Tryz.func94,Tryz.ntmps94
  go_wp2_with fail
  go_ret
  rw [HL.out]
  exact ⟨rfl,rfl⟩
 | true=>
  have h1' : decide ((48:Int)≤(n:Int))=true:=by have:=of_decide_eq_true h1; simp; omega
  have h2' : decide ((n:Int)≤57)=decide (n≤57):=by by_cases h : n≤57 <;> simp [h] <;> omega
  rw [h1] at HL
  clear h1
  go_enter Tryz.func94,Tryz.ntmps94
  go_wp2_with fail
  go_ret
  rw [HL.out,← h2']
  exact ⟨rfl,rfl⟩
theorem infoRTok : (Tryz.prog.info? 82).map (fun i=>(i.zero,i.size,i.bytes))=some (some (.agg #[.int .i64 0,.string ⟨#[]⟩,.int .i64 0]),3,32):=by kernel_rfl
theorem rtokens_any (l:List UInt8) (hl : l.length≤4000000000) (w:World) (B:Nat) (hL:RLaid w B):Calls Tryz.prog 37 #[str l] w (RLexOut w l.length (lex l)):=by
 obtain ⟨s,hs⟩ : ∃ s,s=bs l:=⟨_,rfl⟩
 have hsz : s.size=l.length:=by rw [hs]; rfl
 have HS:=Lib.hid hs
 have HL:=Lib.hid hL
 obtain ⟨w0,hw0⟩ : ∃ x,x=w.alloc (.cells #[num 0,num 0] 34):=⟨_,rfl⟩
 have HB0:=Lib.hid (show Blk w0 w.heap.size #[num 0,num 0] 34 from hw0 ▸ Blk.new w _ _)
 have HC0:=Lib.hid (show Chg [] w w0 from hw0 ▸ (Chg.refl _ _).alloc _)
 have hs0 : w0.heap.size=w.heap.size + 1:=by rw [hw0]; simp
 show Calls Tryz.prog 37 #[.string (bs l)] w _
 rw [← hs]
 have HW0:=Lib.hid hw0
 clear hs hL hw0
 go_enter Tryz.func37,Tryz.ntmps37
 go_wp2_with fail
 rw [← HW0.out]
 go_loopw [4,5,6,7,8,9] (fun lv iv _ _ _ _ wr=>∃ (f i:Nat) (acc:List Tok),iv = .int .i64 i∧i≤l.length∧lex l=(lexL f i acc.length (l.drop i)).ahead acc∧l.length - i≤f∧acc.length≤600∧((∀ t∈acc,t.text.length≤4000000000) ∧ ∀ t∈acc,t.kind = .number → ∃ c r,t.text=c :: r∧c.toNat≠43∧c.toNat≠45) ∧
   wr.ownsRow 0 82 3 lv acc.length (acc.flatMap Tok.cells)∧From w0.heap.size lv∧Chg [] w0 wr) (fun _ iv _ _ _ _ _=>l.length - (intOf iv).toNat)
 case atStart=>exact ⟨l.length,0,[],rfl,Nat.zero_le _,by rw [List.drop_zero,lex]; cases lexL l.length 0 0 l <;> rfl,Nat.sub_le _ _,Nat.zero_le _,⟨fun _ h=>(by cases h),fun _ h=>(by cases h)⟩,World.ownsRow_nil _ _ _ _,From.nil _,Chg.refl _ _⟩
 case round=>
  obtain ⟨f,i,acc,rfl,hi,hr,hf,ha,hsh,ho,hF,hC⟩:=hrel
  have HR:=Lib.hid hr; have HSH:=Lib.hid hsh; have HO:=Lib.hid ho; have HF:=Lib.hid hF; have HC:=Lib.hid hC
  obtain ⟨sa,sc,hsl⟩:=slice_of_owns ho
  have hsw:=hC.size
  have HB1:=Lib.hid (HB0.out.kept hC (by simp))
  clear hr hsh ho hF hC
  subst hsl
  by_cases hlt : i < l.length
  ·have hdec : decide ((i:Int) < (s.size:Int))=true:=by simp; omega
   obtain ⟨c,hcc⟩ : ∃ c,l[i]?=some c:=⟨l[i],List.getElem?_eq_getElem hlt⟩
   have hdrop : l.drop i=c :: l.drop (i + 1):=by
    rw [List.drop_eq_getElem_cons hlt]
    congr 1
    rw [List.getElem?_eq_getElem hlt] at hcc
    exact Option.some.inj hcc
   obtain ⟨f,rfl⟩ : ∃ f',f=f' + 1:=⟨f - 1,by omega⟩
   have hidx:=run_index_str (P:=Tryz.prog) Tryz.underlying9 (show s[i]?=some c by rw [HS.out,bs_get]; exact hcc)
   have HD:=Lib.hid hdrop
   have HBE:=Lib.hid (gap_eq c)
   have HLO:=Lib.hid (rlow_any c); have HDI:=Lib.hid (rdig_any c)
   obtain ⟨n0,hn0⟩ : ∃ n:Nat,n=c.toNat:=⟨_,rfl⟩
   rw [← hn0] at hidx HBE HLO HDI
   clear hn0 hcc hdrop
   cases hb : gap c with
   | true=>
    have HRR:=Lib.hid (show lex l=(lexL f (i + 1) acc.length (l.drop (i + 1))).ahead acc by rw [HR.out,HD.out,lexL_gap hb])
    rw [hb] at HBE
    clear hb
    cases h1 : ((n0:Int) == 32) with
    | true=>
     clear HBE
     go_wp2_with fail
     exact ⟨⟨f,i + 1,acc,by go_num,by omega,HRR.out,by omega,ha,HSH.out,HO.out,HF.out,HC.out⟩,by simp [intOf]; omega⟩
    | false=>
     have h2 : ((n0:Int) == 10)=true:=by have:=HBE.out; rw [h1] at this; simpa using this.symm
     clear HBE
     go_wp2_with fail
     exact ⟨⟨f,i + 1,acc,by go_num,by omega,HRR.out,by omega,ha,HSH.out,HO.out,HF.out,HC.out⟩,by simp [intOf]; omega⟩
   | false=>
    have hbe:=HBE.out
    rw [hb] at hbe
    obtain ⟨h1,h2⟩:=Bool.or_eq_false_iff.1 hbe.symm
    have HB:=Lib.hid hb
    clear hbe HBE hb
    obtain ⟨wL,hwl⟩ : ∃ x,x=wr:=⟨_,rfl⟩
    subst hwl
    cases hlo : letter c
    case' true=>
     rw [hlo] at HLO
     go_wp2_with fail
     refine (HLO.out _).mono ?_; rintro _ w2 ⟨rfl,hw⟩
     have hw:=hw.symm; subst hw
     obtain ⟨wA,hwA⟩ : ∃ x,x=wL.alloc (.cells #[num 1,str [],num i] 82):=⟨_,rfl⟩
     have HWA:=Lib.hid hwA
     clear hwA
     go_wp2_with fail
     rw [← HWA.out]
     go_loopw [7] (fun kv wx=>∃ k:Nat,kv=num k∧i≤k∧k≤l.length∧wx=wA∧howN (fun c=>letter c || digit c) (l.drop i)=(k - i) + howN (fun c=>letter c || digit c) (l.drop k)) (fun kv _=>l.length - (intOf kv).toNat)
     case atStart=>exact ⟨i,rfl,Nat.le_refl _,by omega,rfl,by simp⟩
     case' round=>
      obtain ⟨k,rfl,hik,hkl,rfl,hr2⟩:=hrel
      obtain ⟨kd,hkd⟩ : ∃ kd:Nat,kd=1:=⟨_,rfl⟩
      have HKD:=Lib.hid (show Kind.word.num=kd from hkd.symm)
      have HBT2:=Lib.hid (show Blk wr wL.heap.size #[num kd,str [],num i] 82 by rw [HWA.out,hkd]; exact Blk.new wL _ _)
      have HC2:=Lib.hid (show Chg [] wL wr by rw [HWA.out]; exact (Chg.refl _ _).alloc _)
      have HR2:=Lib.hid hr2
      clear hr2 hkd
      cases hkk : decide (k < l.length)
      case' false=>
       have hdec2 : decide ((k:Int) < (s.size:Int))=false:=by have:=of_decide_eq_false hkk; simp; omega
       have hdec3 : decide (k < l.length)=false:=hkk
       have hdec4 : ¬ (k < l.length):=of_decide_eq_false hkk
       have HNK:=Lib.hid (show nextK (c :: l.drop (i + 1))=(Kind.word,k - i) by rw [nextK_letter hlo,← HD.out,HR2.out,List.drop_eq_nil_of_le (by have:=of_decide_eq_false hkk; omega)]; rfl)
       obtain ⟨wE,rfl⟩ : ∃ x,x=wr:=⟨_,rfl⟩
       clear hkk
       have hk : k≠i:=fun e=>by have:=HNK.out; rw [nextK_letter hlo,howN,if_pos (by rw [hlo]; rfl)] at this; simp [e] at this
       obtain ⟨KK,hKK⟩ : ∃ K,K=Kind.word:=⟨_,rfl⟩
       rw [← hKK] at HNK HKD
       clear hKK
      case' true=>
       have hkl2 : k < l.length:=of_decide_eq_true hkk
       have hdec2 : decide ((k:Int) < (s.size:Int))=true:=by simp; omega
       obtain ⟨c2,hcc⟩ : ∃ c,l[k]?=some c:=⟨l[k],List.getElem?_eq_getElem hkl2⟩
       have HD2:Hid (l.drop k=c2 :: l.drop (k + 1)):=Lib.hid (by
        rw [List.drop_eq_getElem_cons hkl2]
        congr 1
        rw [List.getElem?_eq_getElem hkl2] at hcc
        exact Option.some.inj hcc)
       have hidx2:=run_index_str (P:=Tryz.prog) Tryz.underlying9 (show s[k]?=some c2 by rw [HS.out,bs_get]; exact hcc)
       have HLO2:=Lib.hid (rlow_any c2); have HDI2:=Lib.hid (rdig_any c2)
       obtain ⟨n2,hn2⟩ : ∃ n:Nat,n=c2.toNat:=⟨_,rfl⟩
       rw [← hn2] at hidx2 HLO2 HDI2
       clear hn2 hcc hkk
       cases hl2 : letter c2
       case true=>
        rw [hl2] at HLO2
        have HNN:=Lib.hid (show howN (fun c=>letter c || digit c) (l.drop i)=(k + 1 - i) + howN (fun c=>letter c || digit c) (l.drop (k + 1)) by rw [HR2.out,HD2.out,howN,if_pos (by rw [hl2]; rfl)]; omega)
        clear hl2
        go_wp2_with fail
        refine (HLO2.out _).mono ?_; rintro _ w2 ⟨rfl,hw⟩
        have hw:=hw.symm; subst hw
        go_wp2_with fail
        exact ⟨⟨k + 1,by go_num,by omega,by omega,by first | rfl | trivial,HNN.out⟩,by simp [intOf]; omega⟩
       rw [hl2] at HLO2
       go_wp2_with fail
       refine (HLO2.out _).mono ?_; rintro _ w2 ⟨rfl,hw⟩
       have hw:=hw.symm; subst hw
       go_wp2_with fail
       refine (HDI2.out _).mono ?_; rintro _ w2 ⟨rfl,hw⟩
       have hw:=hw.symm; subst hw
       cases hd2 : digit c2
       case true=>
        have HNN:=Lib.hid (show howN (fun c=>letter c || digit c) (l.drop i)=(k + 1 - i) + howN (fun c=>letter c || digit c) (l.drop (k + 1)) by rw [HR2.out,HD2.out,howN,if_pos (by rw [hl2,hd2]; rfl)]; omega)
        clear hl2 hd2
        go_wp2_with fail
        exact ⟨⟨k + 1,by go_num,by omega,by omega,by first | rfl | trivial,HNN.out⟩,by simp [intOf]; omega⟩
       have HNK:=Lib.hid (show nextK (c :: l.drop (i + 1))=(Kind.word,k - i) by rw [nextK_letter hlo,← HD.out,HR2.out,HD2.out,howN,if_neg (by rw [hl2,hd2]; simp)]; rfl)
       obtain ⟨wE,rfl⟩ : ∃ x,x=wr:=⟨_,rfl⟩
       clear hl2 hd2 HLO2 HDI2 HD2 hkl2
       have hk : k≠i:=fun e=>by have:=HNK.out; rw [nextK_letter hlo,howN,if_pos (by rw [hlo]; rfl)] at this; simp [e] at this
       obtain ⟨KK,hKK⟩ : ∃ K,K=Kind.word:=⟨_,rfl⟩
       rw [← hKK] at HNK HKD
       clear hKK
    rotate_left 2
    case' false=>
     rw [hlo] at HLO
     go_wp2_with fail
     refine (HLO.out _).mono ?_; rintro _ w2 ⟨rfl,hw⟩
     have hw:=hw.symm; subst hw
     cases hdi : digit c
     case' true=>
      rw [hdi] at HDI
      go_wp2_with fail
      refine (HDI.out _).mono ?_; rintro _ w2 ⟨rfl,hw⟩
      have hw:=hw.symm; subst hw
      obtain ⟨wA,hwA⟩ : ∃ x,x=wL.alloc (.cells #[num 2,str [],num i] 82):=⟨_,rfl⟩
      have HWA:=Lib.hid hwA
      clear hwA
      go_wp2_with fail
      rw [← HWA.out]
      go_loopw [7] (fun kv wx=>∃ k:Nat,kv=num k∧i≤k∧k≤l.length∧wx=wA∧howN digit (l.drop i)=(k - i) + howN digit (l.drop k)) (fun kv _=>l.length - (intOf kv).toNat)
      case atStart=>exact ⟨i,rfl,Nat.le_refl _,by omega,rfl,by simp⟩
      case' round=>
       obtain ⟨k,rfl,hik,hkl,rfl,hr2⟩:=hrel
       obtain ⟨kd,hkd⟩ : ∃ kd:Nat,kd=2:=⟨_,rfl⟩
       have HKD:=Lib.hid (show Kind.number.num=kd from hkd.symm)
       have HBT2:=Lib.hid (show Blk wr wL.heap.size #[num kd,str [],num i] 82 by rw [HWA.out,hkd]; exact Blk.new wL _ _)
       have HC2:=Lib.hid (show Chg [] wL wr by rw [HWA.out]; exact (Chg.refl _ _).alloc _)
       have HR2:=Lib.hid hr2
       clear hr2 hkd
       cases hkk : decide (k < l.length)
       case' false=>
        have hdec2 : decide ((k:Int) < (s.size:Int))=false:=by have:=of_decide_eq_false hkk; simp; omega
        have hdec3 : decide (k < l.length)=false:=hkk
        have hdec4 : ¬ (k < l.length):=of_decide_eq_false hkk
        have HNK:=Lib.hid (show nextK (c :: l.drop (i + 1))=(Kind.number,k - i) by rw [nextK_digit hlo hdi,← HD.out,HR2.out,List.drop_eq_nil_of_le (by have:=of_decide_eq_false hkk; omega)]; rfl)
        obtain ⟨wE,rfl⟩ : ∃ x,x=wr:=⟨_,rfl⟩
        clear hkk
        have hk : k≠i:=fun e=>by have:=HNK.out; rw [nextK_digit hlo hdi,howN,if_pos (hdi)] at this; simp [e] at this
        obtain ⟨KK,hKK⟩ : ∃ K,K=Kind.number:=⟨_,rfl⟩
        rw [← hKK] at HNK HKD
        clear hKK
       case' true=>
        have hkl2 : k < l.length:=of_decide_eq_true hkk
        have hdec2 : decide ((k:Int) < (s.size:Int))=true:=by simp; omega
        obtain ⟨c2,hcc⟩ : ∃ c,l[k]?=some c:=⟨l[k],List.getElem?_eq_getElem hkl2⟩
        have HD2:Hid (l.drop k=c2 :: l.drop (k + 1)):=Lib.hid (by
         rw [List.drop_eq_getElem_cons hkl2]
         congr 1
         rw [List.getElem?_eq_getElem hkl2] at hcc
         exact Option.some.inj hcc)
        have hidx2:=run_index_str (P:=Tryz.prog) Tryz.underlying9 (show s[k]?=some c2 by rw [HS.out,bs_get]; exact hcc)
        have HLO2:=Lib.hid (rlow_any c2); have HDI2:=Lib.hid (rdig_any c2)
        obtain ⟨n2,hn2⟩ : ∃ n:Nat,n=c2.toNat:=⟨_,rfl⟩
        rw [← hn2] at hidx2 HLO2 HDI2
        clear hn2 hcc hkk
        cases hd2 : digit c2
        case true=>
         rw [hd2] at HDI2
         have HNN:=Lib.hid (show howN digit (l.drop i)=(k + 1 - i) + howN digit (l.drop (k + 1)) by rw [HR2.out,HD2.out,howN,if_pos hd2]; omega)
         clear hd2
         go_wp2_with fail
         refine (HDI2.out _).mono ?_; rintro _ w2 ⟨rfl,hw⟩
         have hw:=hw.symm; subst hw
         go_wp2_with fail
         exact ⟨⟨k + 1,by go_num,by omega,by omega,by first | rfl | trivial,HNN.out⟩,by simp [intOf]; omega⟩
        rw [hd2] at HDI2
        have HNK:=Lib.hid (show nextK (c :: l.drop (i + 1))=(Kind.number,k - i) by rw [nextK_digit hlo hdi,← HD.out,HR2.out,HD2.out,howN,if_neg (by rw [hd2]; simp)]; rfl)
        clear hd2 HLO2 HD2
        go_wp2_with fail
        refine (HDI2.out _).mono ?_; rintro _ w2 ⟨rfl,hw⟩
        have hw:=hw.symm; subst hw
        obtain ⟨wE,rfl⟩ : ∃ x,x=wr:=⟨_,rfl⟩
        clear HDI2 hkl2
        have hk : k≠i:=fun e=>by have:=HNK.out; rw [nextK_digit hlo hdi,howN,if_pos (hdi)] at this; simp [e] at this
        obtain ⟨KK,hKK⟩ : ∃ K,K=Kind.number:=⟨_,rfl⟩
        rw [← hKK] at HNK HKD
        clear hKK
     rotate_left 2
     case' false=>
      rw [hdi] at HDI
      go_wp2_with fail
      refine (HDI.out _).mono ?_; rintro _ w2 ⟨rfl,hw⟩
      have hw:=hw.symm; subst hw
      obtain ⟨wA,hwA⟩ : ∃ x,x=wL.alloc (.cells #[num 3,str [],num i] 82):=⟨_,rfl⟩
      have HWA:=Lib.hid hwA
      clear hwA
      obtain ⟨N,hN⟩ : ∃ N,N=markN (l.drop i):=⟨_,rfl⟩
      have HNM:=Lib.hid (show nextK (c :: l.drop (i + 1))=(Kind.mark,N) by rw [nextK_markN hlo hdi,hN,HD.out])
      have HN:=Lib.hid (show N=if i + 2≤l.length∧marks.contains ((l.drop i).take 2)=true then 2 else if marks.contains ((l.drop i).take 1)=true then 1 else 0 by
       rw [hN,markN]
       simp only [List.length_drop]
       by_cases h2 : i + 2≤l.length
       ·simp [h2,show 2≤l.length - i by omega,show 1≤l.length - i by omega]
       ·simp [h2,show ¬ 2≤l.length - i by omega,show 1≤l.length - i by omega])
      have HON:Hid (∀ (n:Nat) (w':World),RLaid w' B→Calls Tryz.prog 95 #[.string (s.extract i (i + n)),str [58,61,32,60,61,32,62,61,32,35,32,61,32,60,32,62,32,43,32,45,32,42,32,40,32,41,32,91,32,93,32,44,32,59,32,58,32,46]] w' (fun e w''=>e = .returned (.bool (marks.contains ((l.drop i).take n)))∧w''=w')):=Lib.hid fun n w' hL'=>by
       rw [show s.extract i (i + n)=bs ((l.drop i).take n) by rw [HS.out,bs_extract,Nat.add_sub_cancel_left]]
       exact roneOf_any hL' _ _ marks (by decide) (by decide) (by simp; omega) (by decide)
      have HLA:=Lib.hid (HL.out.kept (HC0.out.then HC.out) (by simp))
      clear hN hlo hdi
      go_wp2_with fail
      rw [← HWA.out]
      go_loopw [7,9] (fun kv nv wx=>∃ k m:Nat,kv=num k∧nv=num m∧wx=wA∧((k=i∧m=2)∨(k=i∧m=1∧N=if marks.contains ((l.drop i).take 1)=true then 1 else 0)∨(k=i∧m=0∧N=0)∨(m=1∧k=i + 2∧N=2∧i + 2≤l.length)∨(m=0∧k=i + 1∧N=1))) (fun _ nv _=>(intOf nv).toNat)
      case atStart=>exact ⟨i,2,rfl,rfl,rfl,.inl ⟨rfl,rfl⟩⟩
      case' round=>
       obtain ⟨k,m,rfl,rfl,rfl,hst⟩:=hrel
       have HLR:=Lib.hid (HLA.out.kept (show Chg [] wL wr by rw [HWA.out]; exact (Chg.refl _ _).alloc _) (by simp))
       rcases hst with ⟨rfl,rfl⟩ | ⟨rfl,rfl,hN1⟩ | ⟨hk,rfl,hN0⟩ | ⟨rfl,hk,hN2,hl2⟩ | ⟨rfl,hk,hN1⟩
       case inl=>
        have HN1:Hid (¬ (k + 2≤l.length∧marks.contains ((l.drop k).take 2)=true)→N=if marks.contains ((l.drop k).take 1)=true then 1 else 0):=Lib.hid fun h=>by rw [HN.out,if_neg h]
        cases hle : decide (k + 2≤l.length)
        ·have hle1 : decide ((k:Int) + 2≤(l.length:Int))=false:=by have:=of_decide_eq_false hle; simp; omega
         have hN1:=HN1.out (fun h=>of_decide_eq_false hle h.1)
         have HN2:=Lib.hid hN1
         clear hN1
         go_wp2_with fail
         exact ⟨⟨k,1,rfl,by go_num,by first | rfl | trivial,.inr (.inl ⟨rfl,rfl,HN2.out⟩)⟩,by simp [intOf]⟩
        ·have hle0:=of_decide_eq_true hle
         have hle1 : decide ((k:Int) + 2≤(l.length:Int))=true:=by simp; omega
         go_wp2_with fail
         refine (HON.out 2 _ HLR.out).mono ?_; rintro _ w2 ⟨rfl,hw⟩
         have hw:=hw.symm; subst hw
         cases hm : marks.contains ((l.drop k).take 2)
         ·have HN2:=Lib.hid (HN1.out (fun h=>by rw [hm] at h; cases h.2))
          clear hm
          go_wp2_with fail
          exact ⟨⟨k,1,rfl,by go_num,by first | rfl | trivial,.inr (.inl ⟨rfl,rfl,HN2.out⟩)⟩,by simp [intOf]⟩
         ·have HN2:=Lib.hid (show N=2 by rw [HN.out,if_pos ⟨hle0,hm⟩])
          clear hm
          go_wp2_with fail
          exact ⟨⟨k + 2,1,by go_num,by go_num,by first | rfl | trivial,.inr (.inr (.inr (.inl ⟨rfl,rfl,HN2.out,hle0⟩)))⟩,by simp [intOf]⟩
       case inr.inl=>
        have hle1 : decide ((k:Int) + 1≤(l.length:Int))=true:=by simp; omega
        have HN1:=Lib.hid hN1
        clear hN1
        go_wp2_with fail
        refine (HON.out 1 _ HLR.out).mono ?_; rintro _ w2 ⟨rfl,hw⟩
        have hw:=hw.symm; subst hw
        cases hm : marks.contains ((l.drop k).take 1)
        ·have HN2:=Lib.hid (show N=0 by rw [HN1.out,hm,if_neg (by simp)])
         clear hm
         go_wp2_with fail
         exact ⟨⟨k,0,rfl,by go_num,by first | rfl | trivial,.inr (.inr (.inl ⟨rfl,rfl,HN2.out⟩))⟩,by simp [intOf]⟩
        ·have HN2:=Lib.hid (show N=1 by rw [HN1.out,hm,if_pos rfl])
         clear hm
         go_wp2_with fail
         exact ⟨⟨k + 1,0,by go_num,by go_num,by first | rfl | trivial,.inr (.inr (.inr (.inr ⟨rfl,rfl,HN2.out⟩)))⟩,by simp [intOf]⟩
       all_goals
        have hik : i≤k:=by omega
        have hkl : k≤l.length:=by omega
        have HNK:=Lib.hid (show nextK (c :: l.drop (i + 1))=(Kind.mark,k - i) by rw [HNM.out]; congr 1; omega)
        obtain ⟨kd,hkd⟩ : ∃ kd:Nat,kd=3:=⟨_,rfl⟩
        have HKD:=Lib.hid (show Kind.mark.num=kd from hkd.symm)
        have HBT2:=Lib.hid (show Blk wr wL.heap.size #[num kd,str [],num i] 82 by rw [HWA.out,hkd]; exact Blk.new wL _ _)
        have HC2:=Lib.hid (show Chg [] wL wr by rw [HWA.out]; exact (Chg.refl _ _).alloc _)
        obtain ⟨wE,rfl⟩ : ∃ x,x=wr:=⟨_,rfl⟩
        obtain ⟨KK,hKK⟩ : ∃ K,K=Kind.mark:=⟨_,rfl⟩
        rw [← hKK] at HNK HKD
        clear hKK hkd
    all_goals
     have hb0:=HB1.out.kept HC2.out (by simp)
     have q0:=hb0.cell 0 _ rfl; have q1:=hb0.cell 1 _ rfl; have r0:=hb0.frozen 0; have r1:=hb0.frozen 1
     have HB0E:=Lib.hid hb0
     have hk600 : acc.length≤600:=ha
     clear hb0
     cases h0 : decide (k=i)
     case' true=>
      first
       | (exfalso; have:=of_decide_eq_true h0; omega)
       | skip
      all_goals
       obtain rfl:=of_decide_eq_true h0
       have HRR:=Lib.hid (show lex l = .bad 3 k by rw [HR.out,HD.out,lexL_none HB.out (by rw [HNK.out]; simp)]; rfl)
       obtain ⟨wF,hwF⟩ : ∃ x,(wE.setCell ⟨w.heap.size,0,none⟩ (num 3)).setCell ⟨w.heap.size,1,none⟩ (num k)=x:=⟨_,rfl⟩
       have hbF:Blk wF w.heap.size #[num 3,num k] 34:=hwF ▸ (HB0E.out.set 0 (num 3)).set 1 (num k)
       have hcF:Chg [w.heap.size] wE wF:=hwF ▸ (Chg.set1 _ _ _ _).then (Chg.set1 _ _ _ _)
       have HCF:=Lib.hid (show Chg [] w wF from ((HC0.out.then HC.out).then HC2.out).trans hcF (fun x hx=>.inr (by simp at hx; omega)))
       have g0:=hbF.cell 0 _ rfl; have g1:=hbF.cell 1 _ rfl
       clear hbF hcF
       go_wp2_with fail
       refine bodyPost_ret (v:=.tuple #[nils,.agg #[num 3,num k]]) (by simp [results,Tryz.results37,go_sem,g0,g1]) rfl ?_
       rw [HRR.out]
       exact ⟨HCF.out,rfl⟩
     case' false=>
      first
       | (exfalso; have:=of_decide_eq_false h0; omega)
       | skip
      all_goals
       have hki : k≠i:=of_decide_eq_false h0
       try clear hk
       have e1 : ((k:Int) == (i:Int))=false:=by simp; omega
       have e2 : (k == i)=false:=by simp; omega
       have hn0 : k - i≠0:=by omega
       cases h6 : decide (600≤acc.length)
       case' true=>
        have ha6 : acc.length=600:=by have:=of_decide_eq_true h6; omega
        have HRR:=Lib.hid (show lex l = .bad 4 i by rw [HR.out,HD.out,ha6,lexL_many HB.out (by rw [HNK.out]; exact hn0)]; rfl)
        have h61 : decide ((600:Int)≤(acc.length:Int))=true:=by simp; omega
        clear ha6
        obtain ⟨wF,hwF⟩ : ∃ x,(wE.setCell ⟨w.heap.size,0,none⟩ (num 4)).setCell ⟨w.heap.size,1,none⟩ (num i)=x:=⟨_,rfl⟩
        have hbF:Blk wF w.heap.size #[num 4,num i] 34:=hwF ▸ (HB0E.out.set 0 (num 4)).set 1 (num i)
        have hcF:Chg [w.heap.size] wE wF:=hwF ▸ (Chg.set1 _ _ _ _).then (Chg.set1 _ _ _ _)
        have HCF:=Lib.hid (show Chg [] w wF from ((HC0.out.then HC.out).then HC2.out).trans hcF (fun x hx=>.inr (by simp at hx; omega)))
        have g0:=hbF.cell 0 _ rfl; have g1:=hbF.cell 1 _ rfl
        clear hbF hcF
        go_wp2_with fail
        refine bodyPost_ret (v:=.tuple #[nils,.agg #[num 4,num i]]) (by simp [results,Tryz.results37,go_sem,g0,g1]) rfl ?_
        rw [HRR.out]
        exact ⟨HCF.out,rfl⟩
       case' false=>
        have h6n:=of_decide_eq_false h6
        have h61 : decide ((600:Int)≤(acc.length:Int))=false:=by simp; omega
        have HTX:=Lib.hid (show lex l=(lexL f k (acc.length + 1) (l.drop k)).ahead (acc ++ [⟨KK,(l.drop i).take (k - i),i⟩]) by
         rw [HR.out,HD.out,lexL_tok HB.out (by rw [HNK.out]; exact hn0) (by omega),HNK.out,← HD.out,List.drop_drop,show i + (k - i)=k by omega])
        have HEX:=Lib.hid (show s.extract i k=bs ((l.drop i).take (k - i)) by rw [HS.out,bs_extract])
        have HDG:Hid (KK = .number → ∃ c' r,(l.drop i).take (k - i)=c' :: r∧c'.toNat≠43∧c'.toNat≠45):=Lib.hid fun e=>by rw [HD.out]; exact nextK_digs (by rw [HNK.out]; exact e) hn0
        obtain ⟨t0,t1,t2⟩:=HBT2.out.three
        have t1f:=HBT2.out.frozen 1
        obtain ⟨wB,hwB⟩ : ∃ x,wE.setCell ⟨wL.heap.size,1,none⟩ (.string (s.extract i k))=x:=⟨_,rfl⟩
        have hbB:Blk wB wL.heap.size #[num kd,.string (s.extract i k),num i] 82:=hwB ▸ HBT2.out.set 1 _
        have hcB:Chg [] wL wB:=HC2.out.trans (hwB ▸ Chg.set1 wE wL.heap.size 1 _:Chg [wL.heap.size] wE wB) (fun x hx=>.inr (by simp at hx; omega))
        obtain ⟨d0,d1,d2⟩:=hbB.three
        have HCB:=Lib.hid hcB
        have HO2:=Lib.hid (owns_kept HO.out (hcB.alloc (.cells #[num kd,.string (s.extract i k),num i] 82)) (by simp))
        clear hbB hcB
        go_wp2_with (at_builtin; go_must (refine wpL_append rfl _ _ 70 rfl 82 _ 3 32 infoRTok Tryz.underlying70 rfl (by decide) _ _ _ rfl HO2.out ⟨wB.heap.size,0,none⟩ 1 1 [num kd,.string (s.extract i k),num i] rfl rfl (cells_new _ _ _) (by simp [Value.oneCell']) ?_ ?_ ?_))
        ·omega
        ·unfold maxLen; omega
        ·intro v' w' hown' hch' hmv'
         have HO':=Lib.hid hown'
         have hszB:=HCB.out.size
         have HF':=Lib.hid (HF.out.moved hmv' (by simp; omega))
         have HC':=Lib.hid ((HC.out.then (HCB.out.alloc (.cells #[num kd,.string (s.extract i k),num i] 82))).trans hch' (fun x hx=>.inr (HF.out x hx)))
         clear hown' hch' hmv'
         go_wp2_with fail
         refine ⟨⟨f,k,acc ++ [⟨KK,(l.drop i).take (k - i),i⟩],rfl,hkl,by simpa using HTX.out,by omega,by simp; omega,⟨?_,?_⟩,?_,HF'.out,HC'.out⟩,by simp [intOf]; omega⟩
         ·intro t ht
          rcases List.mem_append.1 ht with h | h
          ·exact HSH.out.1 t h
          ·simp at h; rw [h]; simp; omega
         ·intro t ht hkt
          rcases List.mem_append.1 ht with h | h
          ·exact HSH.out.2 t h hkt
          ·simp at h; rw [h] at hkt ⊢; exact HDG.out hkt
         ·have:=HO'.out
          rw [HEX.out,← HKD.out] at this
          simpa [Tok.cells] using this
  ·have hdec : decide ((i:Int) < (s.size:Int))=false:=by simp; omega
   have HRR:=Lib.hid (show lex l = .ok acc by rw [HR.out,List.drop_eq_nil_of_le (by omega),lexL_nil]; simp [LexR.ahead])
   obtain ⟨wD,hwD⟩ : ∃ x,x=wr.drew:=⟨_,rfl⟩
   have hcD:Chg [] wr wD:=hwD ▸ (Chg.refl _ _).drew
   have HCD:=Lib.hid (HC.out.then hcD)
   have HLD:=Lib.hid (HL.out.kept (HC0.out.then (HC.out.then hcD)) (by simp))
   have HOD:=Lib.hid (owns_kept HO.out hcD (by simp))
   have hfb:=HLD.out.fineB
   have hfl : 0∉blk (.slice sa acc.length sc):=fun hm=>by have:=HF.out _ hm; have:=HL.out.laid.le; omega
   have z0:=HLD.out.fine0
   have Z1:=Lib.hid (Zone.of (X:=blk (.slice sa acc.length sc)) (w0:=wD) z0 hfl)
   have HFL:=Lib.hid hfl
   have hsD:=hcD.size
   clear hcD hfl z0
   go_wp2_with fail
   refine wp_region_T (blk (.slice sa acc.length sc)) rfl (by kernel_rfl) rfl ?_
   rw [← hwD]
   clear hwD
   have hS:Chg (blk (.slice sa acc.length sc)) wD wD:=Chg.refl _ _
   repeat ((with_reducible refine gX ?_); (first | refine wpX_nil ?_ | refine sK ?_ | refine sM fun _ _=>?_ | refine sL (hz:=by exact Z1.out) fun _ _=>?_ | refine sE fun _ _=>?_); go_wp2_with fail)
   refine And.intro (hS.alloc _) ?_
   have hS1:Chg (blk (.slice sa acc.length sc)) wD (wD.alloc (.cells #[num 4,str [],num l.length] 82)):=hS.alloc _
   repeat ((with_reducible refine gX ?_); (first | refine wpX_nil ?_ | refine sK ?_ | refine sM fun _ _=>?_ | refine sL (hz:=by exact Z1.out) fun _ _=>?_ | refine sE fun _ _=>?_); go_wp2_with fail)
   refine wpX_append _ _ 70 rfl rfl rfl 82 (.agg #[.int .i64 0,.string ⟨#[]⟩,.int .i64 0]) 3 32 infoRTok Tryz.underlying70 rfl (by decide) (.slice sa acc.length sc) acc.length (acc.flatMap Tok.cells) rfl (owns_kept HOD.out ((Chg.refl [] _).alloc _) (fun _ _ h=>by cases h)) ⟨wD.heap.size,0,none⟩ 1 1 [num 4,str [],num l.length] rfl rfl (cells_new _ _ _) (by simp [Value.oneCell']) (by omega) (by unfold maxLen; omega) ?_
   intro v4 w4 ho4 hc4 hm4
   have hS4:Chg (blk (.slice sa acc.length sc)) wD w4:=(hS.alloc _).then hc4
   have hb4:=(HB0.out.kept HCD.out (by simp)).kept hS4 (fun hm=>by have:=HF.out _ hm; omega)
   have y0:=hb4.cell 0 _ rfl; have y1:=hb4.cell 1 _ rfl; have x0:=hb4.frozen 0; have x1:=hb4.frozen 1
   have z0:=hS4.cellSome HLD.out.fine0 HFL.out; have z1:=hS4.cellSome HLD.out.fine1 HFL.out
   have hf4:From w0.heap.size v4:=HF.out.moved hm4 (by simp; omega)
   obtain ⟨wF,hwF⟩ : ∃ x,(w4.setCell ⟨w.heap.size,0,none⟩ (num 0)).setCell ⟨w.heap.size,1,none⟩ (num (-1))=x:=⟨_,rfl⟩
   have hbF:Blk wF w.heap.size #[num 0,num (-1)] 34:=hwF ▸ (hb4.set 0 (num 0)).set 1 (num (-1))
   have hcF:Chg [w.heap.size] w4 wF:=hwF ▸ (Chg.set1 _ _ _ _).then (Chg.set1 _ _ _ _)
   have HOF:=Lib.hid (owns_kept ho4 hcF (fun g hg hm=>by have:=hf4 g hg; simp at hm; omega))
   have HCF:=Lib.hid (show Chg [] w wF from ((HC0.out.then HCD.out).trans hS4 (fun x hx=>.inr (by have:=HF.out x hx; omega))).trans hcF (fun x hx=>.inr (by simp at hx; omega)))
   have HFF:=Lib.hid hf4
   have g0:=hbF.cell 0 _ rfl; have g1:=hbF.cell 1 _ rfl
   clear ho4 hc4 hm4 hb4 hbF hcF hf4
   refine And.intro hS4 ?_
   repeat ((with_reducible refine gX ?_); (first | refine wpX_nil ?_ | refine sK ?_ | refine sM fun _ _=>?_ | refine sL (hz:=by exact Z1.out) fun _ _=>?_ | refine sE fun _ _=>?_); go_wp2_with fail)
   refine stepX_ef rfl rfl (fun _ _=>?_)
   change Oper.wp _ (Oper.mk ..) ..
   go_wp2_with fail
   refine bodyPost_ret (v:=.tuple #[v4,.agg #[num 0,num (-1)]]) (by simp [results,Tryz.results37,go_sem,g0,g1]) rfl ?_
   rw [HRR.out]
   obtain ⟨a,k,rfl,hk,hrow⟩:=Row.of_owns HOF.out (new_owns (w:=w0) HOF.out HFF.out)
   refine ⟨HCF.out,a,k,rfl,hk,?_,ha,HSH.out.1,HSH.out.2⟩
   rw [toksCells_eq]
   exact hrow.mono fun x hx=>⟨by have:=hx.1; omega,hx.2⟩
end Go.Proofs.YtojkkgghndeimaaGreatDoor
namespace Go.Mq.Ref
open Go Go.RowKit Go.Mq Go.Mq.Tree
structure RMp {α:Type} (w wk:World) (B bp bt bM z:Nat) (q:R α) (cs:Array Value) (Q:World→(Nat→Prop)→Prop):Prop where
 fr:Framed Q
 hB:B≤bM
 hbp : bp < w.heap.size
 hbt : bt < w.heap.size
 hM : bM < w.heap.size
 np : bM≠bp
 nt : bM≠bt
 chg:Chg [bp,bM] w wk
 rq:RQ wk B bp bt z q
 blk:Blk wk bM cs 31
 val : q.isOk=true→Q wk (New w wk)
section
variable {α β:Type} {w wk w':World} {B bp bt bM z:Nat} {q:R α} {q':R β} {cs:Array Value} {Q Q':World→(Nat→Prop)→Prop}
theorem RMp.step (h:RMp w wk B bp bt bM z q cs Q) (hc:Chg [bp] wk w') (hq:RQ w' B bp bt z q') (hi : q'.isOk=true→q.isOk=true):RMp w w' B bp bt bM z q' cs Q:=
 ⟨h.fr,h.hB,h.hbp,h.hbt,h.hM,h.np,h.nt,h.chg.then (hc.mono fun x hx=>.inl (by simp at hx; simp [hx])),hq,h.blk.kept hc (by simpa using h.np),fun hk=>h.fr.going (h.val (hi hk)) hc (by simpa using h.hbp)⟩
theorem RMp.as (h:RMp w wk B bp bt bM z q cs Q) (hq:RQ wk B bp bt z q') (hi : q'.isOk=true→q.isOk=true):RMp w wk B bp bt bM z q' cs Q:=h.step (Chg.refl _ _) hq hi
theorem RMp.turn (h:RMp w wk B bp bt bM z q cs Q) (hf:Framed Q') (hi : q.isOk=true→Q wk (New w wk)→Q' wk (New w wk)):RMp w wk B bp bt bM z q cs Q':=
 ⟨hf,h.hB,h.hbp,h.hbt,h.hM,h.np,h.nt,h.chg,h.rq,h.blk,fun hk=>hi hk (h.val hk)⟩
theorem RMp.call (h:RMp w wk B bp bt bM z q cs Q) (hc:Chg [bp] wk w') (hq:RQ w' B bp bt z q') (hi : q'.isOk=true→q.isOk=true) (hf:Framed Q') (hQ : q'.isOk=true→Q' w' (New wk w')):RMp w w' B bp bt bM z q' cs (fun w F=>Q w F∧Q' w F):=
 have k:=h.step hc hq hi
 ⟨h.fr.and hf,k.hB,k.hbp,k.hbt,k.hM,k.np,k.nt,k.chg,k.rq,k.blk,fun hk=>⟨k.val hk,hf.newer (hQ hk) h.chg.size⟩⟩
theorem RMp.store (h:RMp w wk B bp bt bM z q cs Q) (i:Nat) (v:Value):RMp w (wk.setCell ⟨bM,i,none⟩ v) B bp bt bM z q (cs.setIfInBounds i v) Q:=
 have hc:Chg [bM] wk (wk.setCell ⟨bM,i,none⟩ v):=Chg.set1 _ _ _ _
 ⟨h.fr,h.hB,h.hbp,h.hbt,h.hM,h.np,h.nt,h.chg.then (hc.mono fun x hx=>.inl (by simp at hx; simp [hx])),h.rq.kept hc (fun x hx=>by simp at hx; subst hx; exact ⟨h.hB,h.np,h.nt⟩),h.blk.set i v,fun hk=>h.fr.going (h.val hk) hc (by simpa using h.hM)⟩
end
structure GMk {α:Type} (w wk:World) (B bp bt bg z:Nat) (q:R α) (cs:Array Value):Prop where
 hB:B≤w.heap.size
 hbp : bp < w.heap.size
 hbt : bt < w.heap.size
 new : w.heap.size≤bg
 chg:Chg [bp] w wk
 rq:RQ wk B bp bt z q
 blk:Blk wk bg cs 84
section
variable {α β:Type} {w wk w':World} {B bp bt bg z:Nat} {q:R α} {q':R β} {cs:Array Value}
theorem GMk.step (h:GMk w wk B bp bt bg z q cs) (hc:Chg [bp] wk w') (hq:RQ w' B bp bt z q'):GMk w w' B bp bt bg z q' cs:=
 ⟨h.hB,h.hbp,h.hbt,h.new,h.chg.then hc,hq,h.blk.kept hc (by have:=h.hbp; have:=h.new; simp; omega)⟩
theorem GMk.store (h:GMk w wk B bp bt bg z q cs) (i:Nat) (v:Value):GMk w (wk.setCell ⟨bg,i,none⟩ v) B bp bt bg z q (cs.setIfInBounds i v):=
 ⟨h.hB,h.hbp,h.hbt,h.new,h.chg.setCell _ (.inr h.new) v,h.rq.kept (Chg.set1 _ _ _ _) (fun x hx=>by have:=h.hB; have:=h.hbp; have:=h.hbt; have:=h.new; simp at hx; omega),h.blk.set i v⟩
end
theorem set2 {w:World} {b:Nat} (v0 v1:Value) {u0 u1:Value} {t:TypeId} (h:Blk w b #[u0,u1] t) : ∃ wF,((w.setCell ⟨b,0,none⟩ v0).setCell ⟨b,1,none⟩ v1)=wF∧Chg [b] w wF∧Blk wF b #[v0,v1] t:=
 ⟨_,rfl,(Chg.set1 _ _ _ _).then (Chg.set1 _ _ _ _),by
  have:=(h.set 0 v0).set 1 v1
  simpa using this⟩
def lenC (w:World) (b i:Nat):Nat:=match w.cell? ⟨b,i,none⟩ with
 | some v=>lenOf v
 | none=>0
theorem lenC_eq {w:World} {b i:Nat} {a:Option Addr} {n c:Nat} (h : w.cell? ⟨b,i,none⟩=some (.slice a n c)) : lenC w b i=n:=by rw [lenC,h]; rfl
theorem varsL_next {z f:Nat} {xs:List Glob} {ts:List Tok} (h1 : see [118,97,114] ts=true) (h2 : xs.length≠10) : varsL z (f + 1) xs ts=(glob z ts.tail).bind fun g r=>varsL z f (xs ++ [g]) r:=by
 rw [varsL,if_pos h1,if_neg h2]; cases glob z ts.tail <;> rfl
theorem procsL_next {z f:Nat} {xs:List Proc} {ts:List Tok} (h1 : see [112,114,111,99] ts=true) (h2 : xs.length≠10) : procsL z (f + 1) xs ts=(proc z ts).bind fun x r=>procsL z f (xs ++ [x]) r:=by
 rw [procsL,if_pos h1,if_neg h2]; cases proc z ts <;> rfl
theorem kindOf_eq (z:Nat) (ts:List Tok) : kindOf z ts=if see [97,114,114,97,121] ts then ((number z 30 ts.tail).bind fun n r=>if n=0 then .bad 2 (hd z r) else .ok n r) else (must z [105,110,116] ts).bind fun _ r=>.ok 0 r:=by
 rw [kindOf]
 split
 ·cases number z 30 ts.tail <;> rfl
 ·cases must z [105,110,116] ts <;> rfl
def kB (z:Nat) (n:List UInt8) (is:List (List UInt8)) (vs:List Glob) (ps:List Proc):Ps Mod:=fun r6=>(block z [46] r6).bind fun b r7=>.ok ⟨n,is,vs,ps,b⟩ r7
def kP (z:Nat) (n:List UInt8) (is:List (List UInt8)) (vs:List Glob):Ps Mod:=fun r5=>(procsL z 11 [] r5).bind fun ps=>kB z n is vs ps
def kV (z:Nat) (n:List UInt8) (is:List (List UInt8)):Ps Mod:=fun r4=>(varsL z 11 [] r4).bind fun vs=>kP z n is vs
def kI (z:Nat) (n:List UInt8):Ps Mod:=fun r2=>(must z [59] r2).bind fun _ r3=>(imports z r3).bind fun is=>kV z n is
theorem module_k (z:Nat) (ts:List Tok) : module_ z ts=(must z [109,111,100,117,108,101] ts).bind fun _ r=>(name z r).bind fun n=>kI z n:=module_eq z ts
def resOf (o:R Mod):Res:=match o with
 | .bad e p=>.bad e p
 | .ok m []=>.ok m
 | .ok _ (t :: _)=>.bad 3 t.pos
theorem parse_res {l:List UInt8} {ts:List Tok} (h : lex l = .ok ts) : parse l=resOf (module_ l.length ts):=by
 rw [parse,h]
 simp only
 cases module_ l.length ts with
 | bad e p=>rfl
 | ok m r=>cases r <;> rfl
def RParseOut (w:World) (r:Res) (e:Ending) (w':World):Prop:=Chg [] w w'∧match r with
 | .ok m=>∃ v,e = .returned (.tuple #[v,.agg #[num 0,num (-1)]])∧ModAt w' (New w w') m v
 | .bad en p=>e = .returned (.tuple #[.agg #[str [],nils,nils,nils,nils],.agg #[num en,num p]])
end Go.Mq.Ref
namespace Go.Proofs.YtojkkgghndeimaaGreatDoor
open Go Go.RowKit Go.Mq Go.Mq.Tree Go.Mq.Ref
set_option maxRecDepth 100000
set_option maxHeartbeats 16000000
theorem rparse_any (l:List UInt8) (hl : l.length≤4000000000) (w:World) (B:Nat) (hL:RLaid w B):Calls Tryz.prog 9 #[str l] w (RParseOut w (parse l)):=by
 obtain ⟨w0,hw0⟩ : ∃ x,x=(w.alloc (.cells #[str [],nils,nils,nils,nils] 31)).alloc (.cells #[num 0,num 0] 34):=⟨_,rfl⟩
 have hw1 : (w.alloc (.cells #[str [],nils,nils,nils,nils] 31)).heap.size=w.heap.size + 1:=by simp
 have hs0 : w0.heap.size=w.heap.size + 2:=by rw [hw0]; simp
 have hc0:Chg [] w w0:=hw0 ▸ ((Chg.refl _ _).alloc _).alloc _
 have HM0:=Lib.hid (show Blk w0 w.heap.size #[str [],nils,nils,nils,nils] 31 from hw0 ▸ (Blk.new w _ _).kept ((Chg.refl [] _).alloc _) (by simp))
 have HF0:=Lib.hid (show Blk w0 (w.heap.size + 1) #[num 0,num 0] 34 by
  have:=Blk.new (w.alloc (.cells #[str [],nils,nils,nils,nils] 31)) #[num 0,num 0] 34
  rw [hw1,← hw0] at this; exact this)
 have HL0:=Lib.hid (hL.kept hc0 (by simp))
 have HC0:=Lib.hid hc0
 have hB:B≤w.heap.size:=hL.laid.le
 have HTK:=Lib.hid (rtokens_any l hl w0 B HL0.out)
 have HW0:=Lib.hid hw0
 clear hL hc0 hw1 hw0
 go_enter Tryz.func9,Tryz.ntmps9
 go_wp2_with fail
 change Calls _ _ _ ((w.alloc (.cells #[str [],nils,nils,nils,nils] 31)).alloc (.cells #[num 0,num 0] 34)) _
 rw [← HW0.out]
 refine HTK.out.mono ?_; intro e w1 he
 cases hx : lex l with
 | bad en p=>
  rw [hx] at he
  obtain ⟨hc1,rfl⟩:=he
  have HC1:=Lib.hid hc1
  obtain ⟨w2,hw2⟩ : ∃ x,w1.alloc (.cells #[num en,num p] 34)=x:=⟨_,rfl⟩
  have hc2:Chg [] w0 w2:=hw2 ▸ hc1.alloc _
  have hbf:Blk w2 w1.heap.size #[num en,num p] 34:=hw2 ▸ Blk.new _ _ _
  have z0:=hc2.cellSome HL0.out.fine0 (by simp); have z1:=hc2.cellSome HL0.out.fine1 (by simp)
  have f0:=hbf.cell 0 _ rfl; have f1:=hbf.cell 1 _ rfl
  have hpm : ((p:Int) == -1)=false:=beq_eq_false_iff_ne.2 (by omega)
  obtain ⟨wD,hwD⟩ : ∃ x,x=w2.drew:=⟨_,rfl⟩
  have hcD:Chg [] w2 wD:=hwD ▸ (Chg.refl _ _).drew
  have g0:=hcD.cellSome f0 (by simp); have g1:=hcD.cellSome f1 (by simp)
  have hs1:=hc1.size
  have hmD:=(HM0.out.kept hc2 (by simp)).kept hcD (by simp); have hfD:=(HF0.out.kept hc2 (by simp)).kept hcD (by simp)
  obtain ⟨m0,m1,m2,m3,m4⟩:=hmD.five
  have mf0:=hmD.frozen 0; have mf1:=hmD.frozen 1; have mf2:=hmD.frozen 2; have mf3:=hmD.frozen 3; have mf4:=hmD.frozen 4
  obtain ⟨wX,hwX,hcX,hbX⟩:=set5 (str []) nils nils nils nils hmD
  have hfX:=hfD.kept hcX (by simp)
  have k0:=hfX.cell 0 _ rfl; have k1:=hfX.cell 1 _ rfl; have kf0:=hfX.frozen 0; have kf1:=hfX.frozen 1
  obtain ⟨wY,hwY,hcY,hbY⟩:=set2 (num en) (num p) hfX
  have hbXY:=hbX.kept hcY (by simp)
  obtain ⟨a0,a1,a2,a3,a4⟩:=hbXY.five
  have y0:=hbY.cell 0 _ rfl; have y1:=hbY.cell 1 _ rfl
  have hS1:Chg [w.heap.size,w.heap.size + 1] wD wX:=hcX.mono fun x hx=>.inl (by simp at hx; simp [hx])
  have hS2:Chg [w.heap.size,w.heap.size + 1] wD wY:=hS1.then (hcY.mono fun x hx=>.inl (by simp at hx; simp [hx]))
  have HCY:=Lib.hid (show Chg [] w wY from (HC0.out.then (hc2.then hcD)).trans hS2 (fun x hx=>.inr (by simp at hx; omega)))
  clear hc1 hc2 hbf hcD hmD hfD hcX hbX hfX hcY hbY hbXY
  go_wp2_with fail
  refine wp_region_C [w.heap.size,w.heap.size + 1] rfl (by kernel_rfl) ?_
  rw [← hwD]
  clear hwD
  have hS:Chg [w.heap.size,w.heap.size + 1] wD wD:=Chg.refl _ _
  repeat ((with_reducible refine gX ?_); (first | refine wpX_nil ?_ | refine sK ?_ | refine sM fun _ _=>?_ | refine sL (hz:=by exact Zone.of g0 (by simp; omega)) fun _ _=>?_ | refine sE fun _ _=>?_); go_wp2_with fail)
  refine And.intro hS1 ?_
  repeat ((with_reducible refine gX ?_); (first | refine wpX_nil ?_ | refine sK ?_ | refine sM fun _ _=>?_ | refine sL (hz:=by exact Zone.of g0 (by simp; omega)) fun _ _=>?_ | refine sE fun _ _=>?_); go_wp2_with fail)
  refine And.intro hS2 ?_
  repeat ((with_reducible refine gX ?_); (first | refine wpX_nil ?_ | refine sK ?_ | refine sM fun _ _=>?_ | refine sL (hz:=by exact Zone.of g0 (by simp; omega)) fun _ _=>?_ | refine sE fun _ _=>?_); go_wp2_with fail)
  refine bodyPost_ret (v:=.tuple #[.agg #[str [],nils,nils,nils,nils],.agg #[num en,num p]]) (by simp [results,Tryz.results9,go_sem,a0,a1,a2,a3,a4,y0,y1]) rfl ?_
  rw [parse,hx]
  exact ⟨HCY.out,rfl⟩
 | ok ts=>
  rw [hx] at he
  obtain ⟨hc1,a,c,rfl,hac,hrow,hfew,hshort,hdigs⟩:=he
  obtain ⟨bt,off,rfl,hcell⟩:=hrow.at_ (by rw [toksCells_eq]; simp)
  have hbt:=hrow.own (by rw [toksCells_eq]; simp) _ rfl
  have hbt1 : w0.heap.size≤bt:=hbt.1
  have hbt2 : bt < w1.heap.size:=hbt.2
  obtain ⟨w2,hw2⟩ : ∃ x,w1.alloc (.cells #[num 0,num (-1)] 34)=x:=⟨_,rfl⟩
  obtain ⟨w3,hw3⟩ : ∃ x,w2.alloc (.cells #[.slice (some ⟨bt,off,none⟩) (ts.length + 1) c,num 0,num (-1)] 75)=x:=⟨_,rfl⟩
  obtain ⟨w4,hw4⟩ : ∃ x,x=w3.alloc (.cells #[str [],nils,nils,nils,nils] 31):=⟨_,rfl⟩
  obtain ⟨bp,hbp⟩ : ∃ b,b=w2.heap.size:=⟨_,rfl⟩
  obtain ⟨bM,hbM⟩ : ∃ b,b=w3.heap.size:=⟨_,rfl⟩
  have s2 : w2.heap.size=w1.heap.size + 1:=by rw [← hw2]; simp
  have s3 : w3.heap.size=w2.heap.size + 1:=by rw [← hw3]; simp
  have s4 : w4.heap.size=w3.heap.size + 1:=by rw [hw4]; simp
  have s1:=hc1.size
  have hc2:Chg [] w1 w2:=hw2 ▸ (Chg.refl _ _).alloc _
  have hc3:Chg [] w2 w3:=hw3 ▸ (Chg.refl _ _).alloc _
  have hc4:Chg [] w3 w4:=hw4 ▸ (Chg.refl _ _).alloc _
  have hbf:Blk w2 w1.heap.size #[num 0,num (-1)] 34:=hw2 ▸ Blk.new _ _ _
  have z0:=(hc1.then hc2).cellSome HL0.out.fine0 (by simp); have z1:=(hc1.then hc2).cellSome HL0.out.fine1 (by simp)
  have f0:=hbf.cell 0 _ rfl; have f1:=hbf.cell 1 _ rfl
  have hL4:=HL0.out.kept (hc1.then (hc2.then (hc3.then hc4))) (by simp)
  have hp4:RP w4 B bp bt l.length none ts:=⟨hL4,by omega,by omega,by omega,hfew,hshort,hdigs,(fun x e=>by cases e),off,c,by
    have:=(Blk.new w2 #[.slice (some ⟨bt,off,none⟩) (ts.length + 1) c,num 0,num (-1)] 75)
    rw [hw3,← hbp] at this
    exact this.kept hc4 (by simp),hac,fun i v hv=>(hc2.then (hc3.then hc4)).cellSome (hcell i v hv) (by simp)⟩
  have H4:=Lib.hid (show RMp w4 w4 B bp bt bM l.length (.ok () ts:R Unit) #[str [],nils,nils,nils,nils] (fun _ _=>True) from
   ⟨framed_true,by omega,by omega,by omega,by omega,by omega,by omega,Chg.refl _ _,hp4,by rw [hbM,hw4]; exact Blk.new _ _ _,fun _=>trivial⟩)
  have HC4:=Lib.hid (show Chg [] w0 w4 from hc1.then (hc2.then (hc3.then hc4)))
  have HBT:=Lib.hid hbt1
  have HBP:=Lib.hid hbp; have HBM:=Lib.hid hbM; have HW4:=Lib.hid hw4; have HS4:=Lib.hid (show w0.heap.size≤bp∧w0.heap.size≤bM by omega)
  have hbpl : bp < w4.heap.size:=by omega
  have hbtl : bt < w4.heap.size:=by omega
  have hbml : bM < w4.heap.size:=by omega
  have hbmp : bM≠bp:=by omega
  obtain ⟨z,hz⟩ : ∃ z,z=l.length:=⟨_,rfl⟩
  rw [← hz] at H4
  obtain ⟨O,hO⟩ : ∃ O,O=module_ z ts:=⟨_,rfl⟩
  have HO4:=Lib.hid (show O=(must z [109,111,100,117,108,101] ts).bind fun _ r=>(name z r).bind fun n=>kI z n by rw [hO,module_k])
  have HRES:=Lib.hid (show parse l=resOf O by rw [parse_res hx,hO,hz])
  clear hc1 hc2 hc3 hc4 hL4 hp4 hbf hrow hbt hcell hbp hbM hw4 s1 s2 s3 s4 hbt1 hbt2 hO hz hx hfew hshort hdigs hac
  go_wp2_with fail
  clear hw2 hw3 z0 z1 f0 f1
  rw [← HBM.out,← HBP.out,← HW4.out]
  refine (rmust_q H4.out.rq [109,111,100,117,108,101]).mono ?_; rintro _ w5 ⟨rfl,hc,hq⟩
  have H5:=Lib.hid (H4.out.step hc hq (fun _=>rfl))
  clear hc hq
  go_wp2_with fail
  refine (rok_q H5.out.rq).mono ?_; rintro _ w6 ⟨rfl,hc⟩
  have H6:=Lib.hid (H5.out.step hc.weak (H5.out.rq.same hc) id)
  clear hc
  obtain ⟨q5,hq5⟩ : ∃ q,q=(R.ok () ts).bind fun _=>must z [109,111,100,117,108,101]:=⟨_,rfl⟩
  rw [← hq5] at H6 ⊢
  obtain ⟨NQ,hNQ⟩ : ∃ q,q=q5.bind fun _=>name z:=⟨_,rfl⟩
  obtain ⟨n,hn⟩:=val_of [] NQ
  have HON:=Lib.hid (show O=NQ.bind fun _=>kI z n by rw [← bind_val (f:=kI z) hn,HO4.out,hNQ,bind_bind,hq5]; rfl)
  have HNQ:=Lib.hid hNQ; have HN:=Lib.hid hn
  clear hq5 hNQ hn
  go_upto_if 26 with fail
  go_cut [] (fun wx=>∃ nv:List UInt8,RMp w4 wx B bp bt bM z NQ #[str nv,nils,nils,nils,nils] (fun _ _=>nv=n))
  case first=>
   cases q5 with
   | bad en q=>
    have hbad:NQ = .bad en q:=HNQ.out
    simp only [R.isOk]
    go_wp2_with fail
    go_meet
    case rel=>exact ⟨[],(H6.out.as (q':=NQ) (by rw [hbad]; exact H6.out.rq) (fun h=>by rw [hbad] at h; cases h)).turn ⟨fun _ h=>h,fun _ _ h=>h⟩ (fun h=>by rw [hbad] at h; cases h)⟩
   | ok u t5=>
    simp only [R.isOk]
    go_wp2_with fail
    refine (rname_any H6.out.rq).mono ?_; rintro _ w7 ⟨hc,_,rfl,⟨nv,rfl⟩,hq,hv⟩
    have hN5:NQ=name z t5:=HNQ.out
    have H7:=Lib.hid (H6.out.step hc (q':=NQ) (by rw [hN5]; exact hq) (fun _=>rfl))
    have HV:=Lib.hid (show ∀ a r,NQ = .ok a r→nv=n from fun a r e=>by
     have h1:=hv a r (by rw [← hN5]; exact e)
     rw [← HN.out a r e]; simpa [bs] using h1)
    obtain ⟨e0,_,_,_,_⟩:=H7.out.blk.five; have f0:=H7.out.blk.frozen 0
    obtain ⟨w8,hw8⟩ : ∃ x,w7.setCell ⟨bM,0,none⟩ (str nv)=x:=⟨_,rfl⟩
    have H8:=Lib.hid (H7.out.store 0 (str nv))
    simp only [List.setIfInBounds_toArray,Array.setIfInBounds] at H8
    rw [hw8] at H8
    clear hc hq hv hN5
    go_wp2_with fail
    go_meet
    case rel=>exact ⟨nv,H8.out.turn ⟨fun _ h=>h,fun _ _ h=>h⟩ (fun hk _=>by obtain ⟨a,r,e⟩:=isOk_ok hk; exact HV.out a r e)⟩
  case rest=>
   obtain ⟨nv,h7⟩:=hcut
   have H7:=Lib.hid h7
   clear h7
   go_wp2_with fail
   refine (rmust_q H7.out.rq [59]).mono ?_; rintro _ w8 ⟨rfl,hc,hq⟩
   obtain ⟨q8,hq8⟩ : ∃ q,q=NQ.bind fun _=>must z [59]:=⟨_,rfl⟩
   rw [← hq8] at hq
   have H8:=Lib.hid (H7.out.step hc hq (fun h=>by rw [hq8] at h; exact bind_isOk h))
   obtain ⟨IQ,hIQ⟩ : ∃ q,q=q8.bind fun _=>imports z:=⟨_,rfl⟩
   obtain ⟨is,his⟩:=val_of [] IQ
   have HOI:=Lib.hid (show O=IQ.bind fun _=>kV z n is by rw [← bind_val (f:=kV z n) his,HON.out,hIQ,hq8,bind_bind,bind_bind]; rfl)
   have HIQ:=Lib.hid hIQ; have HIS:=Lib.hid his
   clear hc hq hq8 hIQ his
   go_wp2_with fail
   refine (rtake_q H8.out.rq [105,109,112,111,114,116]).mono ?_; rintro _ w9 ⟨rfl,hc,hq⟩
   have HC9:=Lib.hid hc; have HQ9:=Lib.hid hq
   clear hc hq
   go_upto_if 33 with fail
   go_cut [] (fun wx=>∃ (a1:Option Addr) (l1 c1:Nat),RMp w4 wx B bp bt bM z IQ #[str nv,.slice a1 l1 c1,nils,nils,nils] (fun w F=>nv=n∧NamesAt w F is (.slice a1 l1 c1)))
   case first=>
    have hf:Framed (fun w F=>nv=n∧NamesAt w F is nils):=⟨fun hF h=>⟨h.1,h.2.mono hF⟩,fun hc hS h=>⟨h.1,h.2.kept hc hS⟩⟩
    cases hs : q8.sees [105,109,112,111,114,116] with
    | false=>
     have hq9:=HQ9.out
     rw [R.skips_false hs] at hq9
     have hI:IQ=q8.bind fun _ r=>.ok [] r:=by
      rw [HIQ.out]
      cases q8 with
      | bad e q=>rfl
      | ok u t=>have hs : see [105,109,112,111,114,116] t=false:=hs; show imports z t=_; rw [imports_eq,hs,if_neg (by simp)]; rfl
     have H9:=Lib.hid ((H8.out.step HC9.out (q':=IQ) (by rw [hI]; exact hq9.done) (fun h=>by rw [hI] at h; exact bind_isOk h)).turn hf (fun hk h=>⟨h,by
      obtain ⟨a,r,e⟩:=isOk_ok hk
      rw [← HIS.out a r e]
      rw [hI] at e; obtain ⟨_,_,_,e⟩:=bind_ok e; cases e; exact NamesAt.nil⟩))
     clear hq9 hI hf hs
     go_wp2_with fail
     go_meet
     case rel=>exact ⟨none,0,0,H9.out⟩
    | true=>
     obtain ⟨u,t,hqt,hst⟩:=R.sees_true hs
     have hq9:=HQ9.out
     rw [hqt] at hq9
     have H9:=Lib.hid (H8.out.step HC9.out (q':=(.ok () t.tail:R Unit)) (hq9.taken hst) (fun _=>by rw [hqt]; rfl))
     have HIK:=Lib.hid (show IQ=(names z 6 t.tail).bind fun l r=>(must z [59] r).bind fun _ r2=>.ok l r2 by rw [HIQ.out,hqt]; show imports z t=_; rw [imports_eq,if_pos hst])
     clear hq9 hf hs hqt hst
     go_wp2_with fail
     refine (rnames_any 6 (by decide) H9.out.rq).mono ?_; rintro _ wA ⟨hc,_,rfl,⟨a1,l1,c1,rfl⟩,hq,hv⟩
     have HA:=Lib.hid (H9.out.call hc hq (fun _=>rfl) (framed_when (names z 6 t.tail) (fun l=>framed_Names l (.slice a1 l1 c1))) (fun _=>hv))
     obtain ⟨_,e1,_,_,_⟩:=HA.out.blk.five; have f1:=HA.out.blk.frozen 1
     obtain ⟨wB,hwB⟩ : ∃ x,wA.setCell ⟨bM,1,none⟩ (.slice a1 l1 c1)=x:=⟨_,rfl⟩
     have HB:=Lib.hid (HA.out.store 1 (.slice a1 l1 c1))
     simp only [List.setIfInBounds_toArray,Array.setIfInBounds] at HB
     rw [hwB] at HB
     clear hc hq hv
     go_wp2_with fail
     clear hwB e1 f1
     refine (rmust_q HB.out.rq [59]).mono ?_; rintro _ wC ⟨rfl,hc,hq⟩
     have h12:=HB.out.step hc hq bind_isOk
     have hqC:RQ wC B bp bt z IQ:=by rw [HIK.out]; exact hq.bind fun _ _ _ h=>h.done
     have HC:=Lib.hid (show RMp w4 wC B bp bt bM z IQ #[str nv,.slice a1 l1 c1,nils,nils,nils] (fun w F=>nv=n∧NamesAt w F is (.slice a1 l1 c1)) from
      (HB.out.step hc hqC (fun h=>by rw [HIK.out] at h; exact bind_isOk h)).turn ⟨fun hF h=>⟨h.1,h.2.mono hF⟩,fun hc hS h=>⟨h.1,h.2.kept hc hS⟩⟩ (fun hk hQ=>⟨hQ.1,by
       obtain ⟨a,r,e⟩:=isOk_ok hk
       rw [← HIS.out a r e]
       rw [HIK.out] at e
       obtain ⟨l',r1,h1,e⟩:=bind_ok e
       obtain ⟨_,r2,h2,e⟩:=bind_ok e
       cases e
       exact (h12.val (by rw [h1]; show (must z [59] r1).isOk=true; rw [h2]; rfl)).2 _ _ h1⟩))
     clear hc hq h12 hqC
     go_wp2_with fail
     go_meet
     case rel=>exact ⟨a1,l1,c1,HC.out⟩
   case rest=>
    obtain ⟨a1,l1,c1,h9⟩:=hcut
    have H9:=Lib.hid h9
    clear h9
    obtain ⟨VQ,hVQ⟩ : ∃ q,q=IQ.bind fun _=>varsL z 11 []:=⟨_,rfl⟩
    obtain ⟨vs,hvs⟩:=val_of [] VQ
    have HOV:=Lib.hid (show O=VQ.bind fun _=>kP z n is vs by rw [← bind_val (f:=kP z n is) hvs,HOI.out,hVQ,bind_bind]; rfl)
    have HVQ:=Lib.hid hVQ; have HVS:=Lib.hid hvs
    have HF1:=Lib.hid (show Framed (fun w F=>nv=n∧NamesAt w F is (.slice a1 l1 c1)) from ⟨fun hF h=>⟨h.1,h.2.mono hF⟩,fun hc hS h=>⟨h.1,h.2.kept hc hS⟩⟩)
    clear hVQ hvs
    go_upto_block 0 with fail
    go_cut [] (fun wx=>∃ (a2:Option Addr) (l2 c2:Nat),RMp w4 wx B bp bt bM z VQ #[str nv,.slice a1 l1 c1,.slice a2 l2 c2,nils,nils] (fun w F=>(nv=n∧NamesAt w F is (.slice a1 l1 c1))∧GlobsAt w F vs (.slice a2 l2 c2)))
    case first=>
     go_wp2_with fail
     go_loopw [8] (fun _ wr=>∃ (qs:R Unit) (a2:Option Addr) (n2 c2:Nat) (cs:List Value),RMp w4 wr B bp bt bM z qs #[str nv,.slice a1 l1 c1,.slice a2 n2 c2,nils,nils] (fun _ _=>True)∧(qs.isOk=true→(fun w F=>nv=n∧NamesAt w F is (.slice a1 l1 c1)) wr (Off w4 wr (.slice a2 n2 c2))) ∧
      wr.ownsRow 0 84 4 (.slice a2 n2 c2) n2 cs∧From w4.heap.size (.slice a2 n2 c2)∧((∃ f xs t,qs = .ok () t∧VQ=varsL z (f + 1) xs t∧f + xs.length=10∧xs.length=n2∧cs=xs.flatMap Glob.cells) ∨ ∃ en q,qs = .bad en q∧VQ = .bad en q)) (fun _ wr=>11 - lenC wr bM 2)
     case atStart=>
      refine ⟨IQ.bind fun _ r=>.ok () r,none,0,0,[],(H9.out.as H9.out.rq.done bind_isOk).turn framed_true (fun _ _=>trivial),fun hk=>?_,World.ownsRow_nil _ _ _ _,From.nil _,?_⟩
      ·exact HF1.out.mono (fun x hx=>⟨hx.1,hx.2,by simp [blk]⟩) (H9.out.val (bind_isOk hk))
      ·have hV:=HVQ.out
       cases IQ with
       | bad en q=>exact .inr ⟨en,q,rfl,hV⟩
       | ok a r=>exact .inl ⟨10,[],r,rfl,hV,rfl,rfl,rfl⟩
     case round=>
      obtain ⟨qs,a2,n2,c2,cs,hm,hq0,ho,hF,hst⟩:=hrel
      have HM:=Lib.hid hm; have HQ0:=Lib.hid hq0; have HO:=Lib.hid ho; have HF:=Lib.hid hF
      have hsz:=hm.chg.size
      clear hm hq0 ho hF
      rcases hst with ⟨f,xs,t',rfl,hV,hfx,hxn,rfl⟩ | ⟨en,q,rfl,hV⟩
      ·have HV:=Lib.hid hV
       have HT:=Lib.hid (rtake_q HM.out.rq [118,97,114])
       clear hV
       go_wp2_with fail
       refine HT.out.mono ?_; rintro _ w1 ⟨rfl,hc,hq⟩
       cases hs : see [118,97,114] t'
       case false=>
        simp only [R.sees,hs]
        rw [R.skips_false (q:=(.ok () t':R Unit)) hs] at hq
        have hVV:VQ = .ok xs t':=by rw [HV.out,varsL,hs]; simp
        have H1:=HM.out.step hc (q':=VQ) (by rw [hVV]; exact hq) (fun _=>rfl)
        have ho1:=owns_kept HO.out hc (fun g hg hm=>by have:=HF.out g hg; simp at hm; omega)
        have hq1:=HF1.out.done (HF1.out.call (HQ0.out rfl) hc hbpl)
        have hVX:=HVS.out xs t' hVV
        have H2:=Lib.hid (show RMp w4 w1 B bp bt bM z VQ #[str nv,.slice a1 l1 c1,.slice a2 n2 c2,nils,nils] (fun w F=>(nv=n∧NamesAt w F is (.slice a1 l1 c1))∧GlobsAt w F vs (.slice a2 n2 c2)) from
         H1.turn (HF1.out.and ⟨fun hF h=>h.mono hF,fun hc hS h=>h.kept hc hS⟩) (fun _ _=>⟨hq1,by
          obtain ⟨a,c,e,hac,hrow⟩:=Row.of_owns ho1 (new_owns ho1 HF.out)
          cases e
          rw [← hVX]
          exact ⟨a2,c2,by rw [hxn],by omega,hrow⟩⟩))
        clear hc hq hs hVV H1 ho1 hq1 hVX
        go_wp2_with fail
        go_meet
        case rel=>exact ⟨a2,n2,c2,H2.out⟩
       simp only [R.sees,hs]
       have HP1:=Lib.hid (RQ.taken hq hs)
       have HS:=Lib.hid hs
       have H1:=Lib.hid (HM.out.step hc (q':=(.ok () t'.tail:R Unit)) HP1.out (fun _=>rfl))
       have HC1:=Lib.hid hc
       obtain ⟨_,_,e2,_,_⟩:=H1.out.blk.five
       clear hc hq hs
       cases h10 : decide (10≤n2)
       case true=>
        have h10a:=of_decide_eq_true h10
        have h101 : decide ((10:Int)≤(n2:Int))=true:=by simp; omega
        have HVV:=Lib.hid (show VQ = .bad 4 (hd z t'.tail) by rw [HV.out,varsL,if_pos HS.out,if_pos (by omega)])
        clear h10a
        go_wp2_with fail
        refine (rfails_q (β:=List Glob) H1.out.rq 4 (by decide)).mono ?_; rintro _ w2 ⟨rfl,hc,hq⟩
        have H2:=Lib.hid (show RMp w4 w2 B bp bt bM z VQ #[str nv,.slice a1 l1 c1,.slice a2 n2 c2,nils,nils] (fun w F=>(nv=n∧NamesAt w F is (.slice a1 l1 c1))∧GlobsAt w F vs (.slice a2 n2 c2)) from
         (H1.out.step hc (q':=VQ) (by rw [HVV.out]; exact hq) (fun _=>rfl)).turn (HF1.out.and ⟨fun hF h=>h.mono hF,fun hc hS h=>h.kept hc hS⟩) (fun hk=>by rw [HVV.out] at hk; cases hk))
        clear hc hq
        go_wp2_with fail
        go_meet
        case rel=>exact ⟨a2,n2,c2,H2.out⟩
       have h10a:=of_decide_eq_false h10
       have h101 : decide ((10:Int)≤(n2:Int))=false:=by simp; omega
       obtain ⟨off3,cc,kk,tt,HH,⟨b0,b1,b2⟩,g0,g1,g2⟩:=HP1.out.cells
       obtain ⟨p,hp⟩ : ∃ p,p=hd z t'.tail:=⟨_,rfl⟩
       rw [← hp] at g2
       obtain ⟨bg,hbg⟩ : ∃ b,b=w1.heap.size:=⟨_,rfl⟩
       obtain ⟨x2,hx2⟩ : ∃ x,x=w1.alloc (.cells #[str [],num p,num 0,.bool false] 84):=⟨_,rfl⟩
       have hs1:=HC1.out.size
       have G2:=Lib.hid (show GMk wr x2 B bp bt bg z (.ok () t'.tail:R Unit) #[str [],num p,num 0,.bool false] from
        ⟨by have:=HM.out.hB; omega,by omega,by omega,by omega,hx2 ▸ HC1.out.alloc _,hx2 ▸ RQ.same (r:=(.ok () t'.tail:R Unit)) HP1.out ((Chg.refl [] _).alloc _),hbg ▸ hx2 ▸ Blk.new _ _ _⟩)
       have HG1:=Lib.hid (show glob z t'.tail=(name z t'.tail).bind fun n r=>(must z [58] (skip [42] r)).bind fun _ r2=>(kindOf z r2).bind fun k r3=>(must z [59] r3).bind fun _ r4=>.ok ⟨n,p,k,see [42] r⟩ r4 by rw [glob_eq,hp])
       have HBG:=Lib.hid hbg; have HX2:=Lib.hid hx2
       have hgl : wr.heap.size≤bg:=by omega
       clear hp hbg hx2 hs1
       go_wp2_with fail
       rw [← HBG.out,← HX2.out]
       clear b0 b1 b2 g0 g1 g2 e2
       refine (rname_any G2.out.rq).mono ?_; rintro _ x3 ⟨hc,_,rfl,⟨n1,rfl⟩,hq,hv⟩
       have HN1:Hid (∀ a r,name z t'.tail = .ok a r→a=n1):=Lib.hid fun a r e=>by have:=hv a r e; simpa [bs] using this.symm
       have G3:=Lib.hid (G2.out.step hc hq)
       have e0:=G3.out.blk.cell 0 _ rfl; have f0:=G3.out.blk.frozen 0
       obtain ⟨x4,hx4⟩ : ∃ x,x3.setCell ⟨bg,0,none⟩ (str n1)=x:=⟨_,rfl⟩
       have G4:=Lib.hid (G3.out.store 0 (str n1))
       simp only [List.setIfInBounds_toArray,Array.setIfInBounds] at G4
       rw [hx4] at G4
       clear hc hq hv
       go_wp2_with fail
       clear hx4 e0 f0
       refine (rtake_q G4.out.rq [42]).mono ?_; rintro _ x5 ⟨rfl,hc,hq⟩
       obtain ⟨b,hb⟩ : ∃ b,b=(name z t'.tail).sees [42]:=⟨_,rfl⟩
       rw [← hb]
       have G5:=Lib.hid (G4.out.step hc hq)
       have HG5:=Lib.hid (show glob z t'.tail=((name z t'.tail).skips [42]).bind fun _ r=>(must z [58] r).bind fun _ r2=>(kindOf z r2).bind fun k r3=>(must z [59] r3).bind fun _ r4=>.ok ⟨n1,p,k,b⟩ r4 by
        rw [HG1.out]
        exact head_eq (β:=Glob) (F:=fun n b r=>(must z [58] r).bind fun _ r2=>(kindOf z r2).bind fun k r3=>(must z [59] r3).bind fun _ r4=>.ok ⟨n,p,k,b⟩ r4) HN1.out hb)
       have e3:=G5.out.blk.cell 3 _ rfl; have f3:=G5.out.blk.frozen 3
       obtain ⟨x6,hx6⟩ : ∃ x,x5.setCell ⟨bg,3,none⟩ (.bool b)=x:=⟨_,rfl⟩
       have G6:=Lib.hid (G5.out.store 3 (.bool b))
       simp only [List.setIfInBounds_toArray,Array.setIfInBounds] at G6
       rw [hx6] at G6
       clear hc hq hb
       go_wp2_with fail
       clear hx6 e3 f3
       refine (rmust_q G6.out.rq [58]).mono ?_; rintro _ x7 ⟨rfl,hc,hq⟩
       obtain ⟨q7,hq7⟩ : ∃ q,q=(((name z t'.tail).skips [42]).bind fun _=>must z [58]):=⟨_,rfl⟩
       rw [← hq7] at hq
       have G7:=Lib.hid (G6.out.step hc hq)
       obtain ⟨KQ,hKQ⟩ : ∃ q,q=q7.bind fun _=>kindOf z:=⟨_,rfl⟩
       obtain ⟨kv,hkv⟩:=val_of 0 KQ
       have HG8:=Lib.hid (show glob z t'.tail=(KQ.bind fun _=>must z [59]).bind fun _ r4=>.ok ⟨n1,p,kv,b⟩ r4 by
        rw [HG5.out,bind_bind]
        refine Eq.trans ?_ (bind_val (f:=fun k r3=>(must z [59] r3).bind fun _ r4=>(R.ok (⟨n1,p,k,b⟩ : Glob) r4)) hkv)
        rw [hKQ,hq7,bind_bind,bind_bind])
       have HKQ:=Lib.hid hKQ; have HKV:=Lib.hid hkv
       clear hc hq hq7 hKQ hkv
       go_wp2_with fail
       refine (rtake_q G7.out.rq [97,114,114,97,121]).mono ?_; rintro _ x8 ⟨rfl,hc,hq⟩
       have HC8:=Lib.hid hc; have HQ8:=Lib.hid hq
       clear hc hq
       go_upto_if 64 with fail
       go_cut [] (fun wx=>∃ k1:Int,GMk wr wx B bp bt bg z KQ #[str n1,num p,num k1,.bool b]∧(KQ.isOk=true→k1=kv))
       case first=>
        cases hs : q7.sees [97,114,114,97,121] with
        | false=>
         have hq8:=HQ8.out
         rw [R.skips_false hs] at hq8
         have HK:=Lib.hid (show KQ=(q7.bind fun _=>must z [105,110,116]).bind fun _ r=>.ok 0 r by
          rw [HKQ.out,bind_bind]
          cases q7 with
          | bad e q=>rfl
          | ok u t=>have hs : see [97,114,114,97,121] t=false:=hs; show kindOf z t=_; rw [kindOf_eq,hs,if_neg (by simp)]; rfl)
         have G8:=Lib.hid (G7.out.step HC8.out hq8)
         clear hq8 hs
         go_wp2_with fail
         refine (rmust_q G8.out.rq [105,110,116]).mono ?_; rintro _ x9 ⟨rfl,hc,hq⟩
         have G9:=Lib.hid (G8.out.step hc (q':=KQ) (by rw [HK.out]; exact hq.done))
         clear hc hq
         go_wp2_with fail
         go_meet
         case rel=>exact ⟨0,G9.out,fun hk=>by
          obtain ⟨a,r,e⟩:=isOk_ok hk
          rw [← HKV.out a r e]
          rw [HK.out] at e; obtain ⟨_,_,_,e⟩:=bind_ok e; cases e; rfl⟩
        | true=>
         obtain ⟨u,t7,hqt,hst⟩:=R.sees_true hs
         have hq8:=HQ8.out
         rw [hqt] at hq8
         have G8:=Lib.hid (G7.out.step HC8.out (q':=(.ok () t7.tail:R Unit)) (hq8.taken hst))
         have HK:=Lib.hid (show KQ=(number z 30 t7.tail).bind fun n r=>if n=0 then .bad 2 (hd z r) else .ok n r by rw [HKQ.out,hqt]; show kindOf z t7=_; rw [kindOf_eq,if_pos hst])
         clear hq8 hs hqt hst
         go_wp2_with fail
         refine (rnumber_any G8.out.rq 30 (by decide) (by decide)).mono ?_; rintro _ x9 ⟨hc,_,rfl,⟨v,rfl⟩,hq,hv⟩
         have G9:=Lib.hid (G8.out.step hc hq)
         have e2:=G9.out.blk.cell 2 _ rfl; have f2:=G9.out.blk.frozen 2
         obtain ⟨xA,hxA⟩ : ∃ x,x9.setCell ⟨bg,2,none⟩ (num v)=x:=⟨_,rfl⟩
         have GA:=Lib.hid (G9.out.store 2 (num v))
         simp only [List.setIfInBounds_toArray,Array.setIfInBounds] at GA
         rw [hxA] at GA
         have HV9:=Lib.hid hv
         clear hc hq hv
         go_wp2_with fail
         clear hxA e2 f2
         refine (rok_q GA.out.rq).mono ?_; rintro _ xB ⟨rfl,hc⟩
         have GB:=Lib.hid (GA.out.step hc.weak (GA.out.rq.same hc))
         clear hc
         cases hn : number z 30 t7.tail with
         | bad en q=>
          have hK:KQ = .bad en q:=by rw [HK.out,hn]; rfl
          rw [hn] at GB
          have GC:=Lib.hid (show GMk wr xB B bp bt bg z KQ #[str n1,num p,num v,.bool b] by rw [hK]; exact GB.out.step (Chg.refl _ _) GB.out.rq)
          have HKB:=Lib.hid hK
          simp only [R.isOk]
          clear hn hK
          go_wp2_with fail
          go_meet
          case rel=>exact ⟨v,GC.out,fun hk=>by rw [HKB.out] at hk; cases hk⟩
         | ok a r=>
          have hav : v=a:=by have:=HV9.out a r hn; simpa using this
          subst hav
          rw [hn] at GB
          simp only [R.isOk]
          have e2:=GB.out.blk.cell 2 _ rfl
          cases hv0 : (v == (0:Int)) with
          | true=>
           have hK:KQ = .bad 2 (hd z r):=by rw [HK.out,hn]; show (if v=0 then _ else _)=_; rw [if_pos (beq_iff_eq.1 hv0)]
           have HKB:=Lib.hid hK
           clear hn hK
           go_wp2_with fail
           refine (rfails_q (β:=Int) GB.out.rq 2 (by decide)).mono ?_; rintro _ xC ⟨rfl,hc,hq⟩
           have GC:=Lib.hid (show GMk wr xC B bp bt bg z KQ #[str n1,num p,num v,.bool b] by rw [HKB.out]; exact GB.out.step hc hq)
           clear hc hq
           go_wp2_with fail
           go_meet
           case rel=>exact ⟨v,GC.out,fun hk=>by rw [HKB.out] at hk; cases hk⟩
          | false=>
           have hK:KQ = .ok v r:=by rw [HK.out,hn]; show (if v=0 then _ else _)=_; rw [if_neg (by simpa using hv0)]
           have HKB:=Lib.hid hK
           have GC:=Lib.hid (show GMk wr xB B bp bt bg z KQ #[str n1,num p,num v,.bool b] by rw [hK]; exact GB.out.step (Chg.refl _ _) GB.out.rq)
           clear hn hK
           go_wp2_with fail
           go_meet
           case rel=>exact ⟨v,GC.out,fun _=>HKV.out v r HKB.out⟩
       case rest=>
        obtain ⟨k1,hg8,hk1⟩:=hcut
        have G8:=Lib.hid hg8; have HK1:=Lib.hid hk1
        clear hg8 hk1
        go_wp2_with fail
        refine (rmust_q G8.out.rq [59]).mono ?_; rintro _ xA ⟨rfl,hc,hq⟩
        have GA:=Lib.hid (G8.out.step hc hq)
        clear hc hq
        obtain ⟨qs,hqs⟩ : ∃ q,q=KQ.bind fun _=>must z [59]:=⟨_,rfl⟩
        rw [← hqs] at GA HG8
        have HQS:=Lib.hid hqs
        have d0:=GA.out.blk.cell 0 _ rfl; have d1:=GA.out.blk.cell 1 _ rfl; have d2:=GA.out.blk.cell 2 _ rfl; have d3:=GA.out.blk.cell 3 _ rfl
        have hbA:=HM.out.blk.kept GA.out.chg (by simpa using hbmp)
        obtain ⟨_,_,e2,_,_⟩:=hbA.five
        have HBA:=Lib.hid hbA
        have HOA:=Lib.hid (owns_kept HO.out (GA.out.chg.alloc (.cells #[str n1,num p,num k1,.bool b] 84)) (fun g hg hm=>by have:=HF.out g hg; simp at hm; omega))
        clear hbA hqs
        go_wp2_with (at_builtin; go_must (refine wpL_append rfl _ _ 27 rfl 84 _ 4 40 infoGlob Tryz.underlying27 rfl (by decide) _ _ _ rfl HOA.out ⟨xA.heap.size,0,none⟩ 1 1 [str n1,num p,num k1,.bool b] rfl rfl (cells_new _ _ _) (by simp [Value.oneCell']) ?_ ?_ ?_))
        ·omega
        ·unfold maxLen; omega
        ·intro v' w' hown' hch' hmv'
         obtain ⟨va,vc,rfl⟩:=slice_of_owns hown'
         have hszA:=GA.out.chg.size
         have hsz':=hch'.size
         have hfE:From w4.heap.size (.slice va (n2 + 1) vc):=HF.out.moved hmv' (by simp; omega)
         have hb':=(HBA.out.kept ((Chg.refl [] xA).alloc (.cells #[str n1,num p,num k1,.bool b] 84)) (by simp)).kept hch' (fun hm=>by have:=HF.out _ hm; omega)
         have f2:=hb'.frozen 2; have c2':=hb'.cell 2 _ rfl
         obtain ⟨wE,hwE⟩ : ∃ x,w'.setCell ⟨bM,2,none⟩ (.slice va (n2 + 1) vc)=x:=⟨_,rfl⟩
         have hcE:Chg [bM] w' wE:=hwE ▸ Chg.set1 _ _ _ _
         have hbE:Blk wE bM #[str nv,.slice a1 l1 c1,.slice va (n2 + 1) vc,nils,nils] 31:=hwE ▸ hb'.set 2 _
         have hqE:RQ wE B bp bt z qs:=((GA.out.rq.same ((Chg.refl [] xA).alloc _)).kept hch' (fun x hx=>by have:=HF.out x hx; have:=HM.out.hB; omega)).kept hcE (fun x hx=>by simp at hx; subst hx; exact ⟨HM.out.hB,HM.out.np,HM.out.nt⟩)
         have HME:=Lib.hid (show RMp w4 wE B bp bt bM z qs #[str nv,.slice a1 l1 c1,.slice va (n2 + 1) vc,nils,nils] (fun _ _=>True) from
          ⟨framed_true,HM.out.hB,HM.out.hbp,HM.out.hbt,HM.out.hM,HM.out.np,HM.out.nt,((HM.out.chg.then (GA.out.chg.mono fun x hx=>.inl (by simp at hx; simp [hx]))).alloc _).trans hch' (fun x hx=>.inr (HF.out x hx)) |>.then (hcE.mono fun x hx=>.inl (by simp at hx; simp [hx])),hqE,hbE,fun _=>trivial⟩)
         have HQE:=Lib.hid (show qs.isOk=true→(fun w F=>nv=n∧NamesAt w F is (.slice a1 l1 c1)) wE (Off w4 wE (.slice va (n2 + 1) vc)) from fun _=>
          HF1.out.call (HF1.out.app (HF1.out.call (HQ0.out rfl) GA.out.chg hbpl) hch' hmv') hcE hbml)
         have HOE:=Lib.hid (owns_kept hown' hcE (fun g hg hm=>by have:=hfE g hg; simp at hm; omega))
         have HFE:=Lib.hid hfE
         have HLE:=Lib.hid (lenC_eq (hbE.cell 2 _ rfl)); have HLR:=Lib.hid (lenC_eq (HM.out.blk.cell 2 _ rfl))
         have HST:=Lib.hid (show (∃ f xs' t,qs = .ok () t∧VQ=varsL z (f + 1) xs' t∧f + xs'.length=10∧xs'.length=n2 + 1∧xs.flatMap Glob.cells ++ [str n1,num p,num k1,.bool b]=xs'.flatMap Glob.cells) ∨ ∃ en q,qs = .bad en q∧VQ = .bad en q by
          have hV:=HV.out
          rw [varsL_next HS.out (by omega),HG8.out,bind_bind] at hV
          cases hqx : qs with
          | bad en q=>rw [hqx] at hV; exact .inr ⟨en,q,rfl,hV⟩
          | ok u r4=>
           rw [hqx] at hV
           have hk : k1=kv:=HK1.out (bind_isOk (f:=fun _=>must z [59]) (by rw [← HQS.out,hqx]; rfl))
           obtain ⟨f,rfl⟩ : ∃ f',f=f' + 1:=⟨f - 1,by omega⟩
           exact .inl ⟨f,xs ++ [⟨n1,p,kv,b⟩],r4,rfl,by rw [hV]; rfl,by simp at hfx ⊢; omega,by simp; omega,by rw [hk]; simp [Glob.cells]⟩)
         clear hown' hch' hmv' hsz' hb' hcE hbE hqE hfE d0 d1 d2 d3
         go_wp2_with fail
         go_roundw
         case rel=>
          exact ⟨qs,va,n2 + 1,vc,_,HME.out,HQE.out,HOE.out,HFE.out,HST.out⟩
         case measure=>rw [HLE.out,HLR.out]; omega
      ·have HV:=Lib.hid hV
       have HT:=Lib.hid (rtake_q HM.out.rq [118,97,114])
       clear hV
       go_wp2_with fail
       refine HT.out.mono ?_; rintro _ w1 ⟨rfl,hc,hq⟩
       simp only [R.sees]
       have H2:=Lib.hid (show RMp w4 w1 B bp bt bM z VQ #[str nv,.slice a1 l1 c1,.slice a2 n2 c2,nils,nils] (fun w F=>(nv=n∧NamesAt w F is (.slice a1 l1 c1))∧GlobsAt w F vs (.slice a2 n2 c2)) from
        (HM.out.step hc (q':=VQ) (by rw [HV.out]; exact hq) (fun h=>by rw [HV.out] at h; cases h)).turn (HF1.out.and ⟨fun hF h=>h.mono hF,fun hc hS h=>h.kept hc hS⟩) (fun hk=>by rw [HV.out] at hk; cases hk))
       clear hc hq
       go_wp2_with fail
       go_meet
       case rel=>exact ⟨a2,n2,c2,H2.out⟩
    case rest=>
     obtain ⟨a2,l2,c2,h10⟩:=hcut
     have H10:=Lib.hid h10
     clear h10
     obtain ⟨PQ,hPQ⟩ : ∃ q,q=VQ.bind fun _=>procsL z 11 []:=⟨_,rfl⟩
     obtain ⟨ps,hps⟩:=val_of [] PQ
     have HOP:=Lib.hid (show O=PQ.bind fun _=>kB z n is vs ps by rw [← bind_val (f:=kB z n is vs) hps,HOV.out,hPQ,bind_bind]; rfl)
     have HPQ:=Lib.hid hPQ; have HPS:=Lib.hid hps
     have HF2:=Lib.hid (show Framed (fun w F=>(nv=n∧NamesAt w F is (.slice a1 l1 c1))∧GlobsAt w F vs (.slice a2 l2 c2)) from HF1.out.and ⟨fun hF h=>h.mono hF,fun hc hS h=>h.kept hc hS⟩)
     clear hPQ hps
     go_upto_block 2 with fail
     go_cut [] (fun wx=>∃ (a3:Option Addr) (l3 c3:Nat),RMp w4 wx B bp bt bM z PQ #[str nv,.slice a1 l1 c1,.slice a2 l2 c2,.slice a3 l3 c3,nils] (fun w F=>((nv=n∧NamesAt w F is (.slice a1 l1 c1))∧GlobsAt w F vs (.slice a2 l2 c2))∧ProcsAt w F ps (.slice a3 l3 c3)))
     case first=>
      have hf3 : ∀ a3 l3 c3,Framed (fun w F=>((nv=n∧NamesAt w F is (.slice a1 l1 c1))∧GlobsAt w F vs (.slice a2 l2 c2))∧ProcsAt w F ps (.slice a3 l3 c3)):=fun a3 l3 c3=>HF2.out.and ⟨fun hF h=>h.mono hF,fun hc hS h=>h.kept hc hS⟩
      have HF3:=Lib.hid hf3
      clear hf3
      go_wp2_with fail
      go_loopw [88] (fun _ wr=>∃ (qs:R Unit) (a3:Option Addr) (n3 c3:Nat) (cs:List Value),RMp w4 wr B bp bt bM z qs #[str nv,.slice a1 l1 c1,.slice a2 l2 c2,.slice a3 n3 c3,nils] (fun _ _=>True)∧(qs.isOk=true→(fun w F=>(nv=n∧NamesAt w F is (.slice a1 l1 c1))∧GlobsAt w F vs (.slice a2 l2 c2)) wr (Off w4 wr (.slice a3 n3 c3))) ∧
       wr.ownsRow 0 87 6 (.slice a3 n3 c3) n3 cs∧From w4.heap.size (.slice a3 n3 c3)∧((∃ f xs t,qs = .ok () t∧PQ=procsL z (f + 1) xs t∧f + xs.length=10∧xs.length=n3∧PrsAt wr (Off w4 wr (.slice a3 n3 c3)) xs cs) ∨ ∃ en q,qs = .bad en q∧PQ = .bad en q)) (fun _ wr=>11 - lenC wr bM 3)
      case atStart=>
       refine ⟨VQ.bind fun _ r=>.ok () r,none,0,0,[],(H10.out.as H10.out.rq.done bind_isOk).turn framed_true (fun _ _=>trivial),fun hk=>?_,World.ownsRow_nil _ _ _ _,From.nil _,?_⟩
       ·exact HF2.out.mono (fun x hx=>⟨hx.1,hx.2,by simp [blk]⟩) (H10.out.val (bind_isOk hk))
       ·have hV:=HPQ.out
        cases VQ with
        | bad en q=>exact .inr ⟨en,q,rfl,hV⟩
        | ok a r=>exact .inl ⟨10,[],r,rfl,hV,rfl,rfl,rfl⟩
      case round=>
       obtain ⟨qs,a3,n3,c3,cs,hm,hq0,ho,hF,hst⟩:=hrel
       have HM:=Lib.hid hm; have HQ0:=Lib.hid hq0; have HO:=Lib.hid ho; have HF:=Lib.hid hF
       have hsz:=hm.chg.size
       clear hm hq0 ho hF
       rcases hst with ⟨f,xs,t',rfl,hV,hfx,hxn,hps⟩ | ⟨en,q,rfl,hV⟩
       ·have HV:=Lib.hid hV; have HPR:=Lib.hid hps
        have HT:=Lib.hid (rsee_q HM.out.rq [112,114,111,99])
        clear hV hps
        go_wp2_with fail
        refine HT.out.mono ?_; rintro _ w5 ⟨rfl,hc⟩
        cases hs : see [112,114,111,99] t'
        case false=>
         simp only [R.sees,hs]
         have hVV:PQ = .ok xs t':=by rw [HV.out,procsL,hs]; simp
         have H1:=HM.out.step hc.weak (q':=PQ) (by rw [hVV]; exact RQ.same (r:=(.ok () t':R Unit)) HM.out.rq hc) (fun _=>rfl)
         have ho1:=owns_kept HO.out hc (by simp)
         have hq1:=HF2.out.done (HF2.out.call (HQ0.out rfl) hc.weak hbpl)
         have hp1:=(framed_Prs xs cs).done ((framed_Prs xs cs).call HPR.out hc.weak hbpl)
         have hVX:=HPS.out xs t' hVV
         have H2:=Lib.hid (show RMp w4 w5 B bp bt bM z PQ #[str nv,.slice a1 l1 c1,.slice a2 l2 c2,.slice a3 n3 c3,nils] (fun w F=>((nv=n∧NamesAt w F is (.slice a1 l1 c1))∧GlobsAt w F vs (.slice a2 l2 c2))∧ProcsAt w F ps (.slice a3 n3 c3)) from
          H1.turn (HF3.out a3 n3 c3) (fun _ _=>⟨hq1,by
           obtain ⟨a,c,e,hac,hrow⟩:=Row.of_owns ho1 (new_owns ho1 HF.out)
           cases e
           rw [← hVX]
           exact ⟨a3,c3,cs,by rw [hxn],by omega,hrow,hp1⟩⟩))
         clear hc hs hVV H1 ho1 hq1 hp1 hVX
         go_wp2_with fail
         go_meet
         case rel=>exact ⟨a3,n3,c3,H2.out⟩
        simp only [R.sees,hs]
        have HS:=Lib.hid hs
        have H1:=Lib.hid (HM.out.step hc.weak (HM.out.rq.same hc) id)
        have HC1:=Lib.hid hc
        obtain ⟨_,_,_,e3,_⟩:=H1.out.blk.five
        clear hc hs
        cases h10 : decide (10≤n3)
        case true=>
         have h10a:=of_decide_eq_true h10
         have h101 : decide ((10:Int)≤(n3:Int))=true:=by simp; omega
         have HVV:=Lib.hid (show PQ = .bad 4 (hd z t') by rw [HV.out,procsL,if_pos HS.out,if_pos (by omega)])
         clear h10a
         go_wp2_with fail
         refine (rfails_q (β:=List Proc) H1.out.rq 4 (by decide)).mono ?_; rintro _ w6 ⟨rfl,hc,hq⟩
         have H2:=Lib.hid (show RMp w4 w6 B bp bt bM z PQ #[str nv,.slice a1 l1 c1,.slice a2 l2 c2,.slice a3 n3 c3,nils] (fun w F=>((nv=n∧NamesAt w F is (.slice a1 l1 c1))∧GlobsAt w F vs (.slice a2 l2 c2))∧ProcsAt w F ps (.slice a3 n3 c3)) from
          (H1.out.step hc (q':=PQ) (by rw [HVV.out]; exact hq) (fun _=>rfl)).turn (HF3.out a3 n3 c3) (fun hk=>by rw [HVV.out] at hk; cases hk))
         clear hc hq
         go_wp2_with fail
         go_meet
         case rel=>exact ⟨a3,n3,c3,H2.out⟩
        have h10a:=of_decide_eq_false h10
        have h101 : decide ((10:Int)≤(n3:Int))=false:=by simp; omega
        obtain ⟨wD,hwD⟩ : ∃ x,x=w5.drew:=⟨_,rfl⟩
        have hcD:Chg [] w5 wD:=hwD ▸ (Chg.refl _ _).drew
        have HD:=Lib.hid (H1.out.step hcD.weak (H1.out.rq.same hcD) id)
        have HCD:=Lib.hid (show Chg [bp] wr wD from (HC1.out.then hcD).weak)
        have d3:=HD.out.blk.cell 3 _ rfl
        have hbx : bM∉bp :: blk (.slice a3 n3 c3):=fun hm=>by
         simp only [List.mem_cons] at hm
         rcases hm with hm | hm
         ·omega
         ·have:=HF.out _ hm; omega
        have Z1:=Lib.hid (Zone.of (X:=bp :: blk (.slice a3 n3 c3)) (w0:=wD) d3 hbx)
        have HBX:=Lib.hid hbx
        clear hcD
        go_wp2_with fail
        refine wp_region_T (bp :: blk (.slice a3 n3 c3)) rfl (by kernel_rfl) rfl ?_
        rw [← hwD]
        clear hwD
        have hS:Chg (bp :: blk (.slice a3 n3 c3)) wD wD:=Chg.refl _ _
        repeat ((with_reducible refine gX ?_); (first | refine wpX_nil ?_ | refine sK ?_ | refine sM fun _ _=>?_ | refine sL (hz:=by exact Z1.out) fun _ _=>?_ | refine sE fun _ _=>?_); go_wp2_with fail)
        refine (rproc_any (show RP wD B bp bt z none t' from HD.out.rq) HS.out).mono ?_; rintro _ w6 ⟨hc6,_,rfl,⟨n9,p9,b9,a9,l9,m9,a8,l8,m8,a7,l7,m7,rfl⟩,hq6,hv6⟩
        have hS5:Chg (bp :: blk (.slice a3 n3 c3)) wD w6:=hc6.mono (fun x hx=>.inl (by simp at hx; simp [hx]))
        have HC6:=Lib.hid hc6; have HQ6:=Lib.hid hq6
        have HV6:Hid (∀ x r,proc z t' = .ok x r→PrAt w6 (New wD w6) x [str n9,num p9,.bool b9,.slice a9 l9 m9,.slice a8 l8 m8,.slice a7 l7 m7]):=Lib.hid fun x r e=>by
         obtain ⟨cx,e1,e2⟩:=hv6 x r e
         have : cx=[str n9,num p9,.bool b9,.slice a9 l9 m9,.slice a8 l8 m8,.slice a7 l7 m7]:=by
          have:=(Value.agg.inj e1).symm
          simpa using congrArg Array.toList this
         rw [← this]; exact e2
        clear hc6 hq6 hv6 hbx
        go_wp2_with fail
        refine And.intro hS5 ?_
        repeat ((with_reducible refine gX ?_); (first | refine wpX_nil ?_ | refine sK ?_ | refine sM fun _ _=>?_ | refine sL (hz:=by exact Z1.out) fun _ _=>?_ | refine sE fun _ _=>?_); go_wp2_with fail)
        refine And.intro (hS5.alloc _) ?_
        have hS6:Chg (bp :: blk (.slice a3 n3 c3)) wD (w6.alloc (.cells #[str n9,num p9,.bool b9,.slice a9 l9 m9,.slice a8 l8 m8,.slice a7 l7 m7] 87)):=hS5.alloc _
        repeat ((with_reducible refine gX ?_); (first | refine wpX_nil ?_ | refine sK ?_ | refine sM fun _ _=>?_ | refine sL (hz:=by exact Z1.out) fun _ _=>?_ | refine sE fun _ _=>?_); go_wp2_with fail)
        have hoD:=owns_kept HO.out HCD.out (fun g hg hm=>by have:=HF.out g hg; simp at hm; omega)
        have ho6:=owns_kept hoD (HC6.out.alloc (.cells #[str n9,num p9,.bool b9,.slice a9 l9 m9,.slice a8 l8 m8,.slice a7 l7 m7] 87)) (fun g hg hm=>by have:=HF.out g hg; simp at hm; omega)
        have HLT:=Lib.hid (owns_lt hoD)
        refine wpX_append _ _ 28 rfl rfl rfl 87 _ 6 104 infoProc Tryz.underlying28 rfl (by decide) (.slice a3 n3 c3) n3 cs rfl ho6 ⟨w6.heap.size,0,none⟩ 1 1 [str n9,num p9,.bool b9,.slice a9 l9 m9,.slice a8 l8 m8,.slice a7 l7 m7] rfl rfl (cells_new _ _ _) (by simp [Value.oneCell']) (by omega) (by unfold maxLen; omega) ?_
        intro v' w' hown' hch' hmv'
        obtain ⟨va,vc,rfl⟩:=slice_of_owns hown'
        have hS16:Chg (bp :: blk (.slice a3 n3 c3)) wD w':=hS6.then (hch'.mono fun x hx=>.inl (List.mem_cons_of_mem _ hx))
        have hszD : w4.heap.size≤wD.heap.size:=HD.out.chg.size
        have hsz6:=HC6.out.size
        have hsz':=hch'.size
        have hfE:From w4.heap.size (.slice va (n3 + 1) vc):=HF.out.moved hmv' (by simp; omega)
        have hb':=HD.out.blk.kept hS16 HBX.out
        have f3:=hb'.frozen 3; have c3':=hb'.cell 3 _ rfl
        obtain ⟨wE,hwE⟩ : ∃ x,w'.setCell ⟨bM,3,none⟩ (.slice va (n3 + 1) vc)=x:=⟨_,rfl⟩
        have hcE:Chg [bM] w' wE:=hwE ▸ Chg.set1 _ _ _ _
        have hbE:Blk wE bM #[str nv,.slice a1 l1 c1,.slice a2 l2 c2,.slice va (n3 + 1) vc,nils] 31:=hwE ▸ hb'.set 3 _
        obtain ⟨qs',hqs⟩ : ∃ q,q=(proc z t').bind fun _ r=>.ok () r:=⟨_,rfl⟩
        have hqE:RQ wE B bp bt z qs':=by
         rw [hqs]
         exact (((HQ6.out.same ((Chg.refl [] w6).alloc _)).kept hch' (fun x hx=>by have:=HF.out x hx; have:=HM.out.hB; omega)).kept hcE (fun x hx=>by simp at hx; subst hx; exact ⟨HM.out.hB,HM.out.np,HM.out.nt⟩)).done
        have HME:=Lib.hid (show RMp w4 wE B bp bt bM z qs' #[str nv,.slice a1 l1 c1,.slice a2 l2 c2,.slice va (n3 + 1) vc,nils] (fun _ _=>True) from
         ⟨framed_true,HM.out.hB,HM.out.hbp,HM.out.hbt,HM.out.hM,HM.out.np,HM.out.nt,((HD.out.chg.then (HC6.out.mono fun x hx=>.inl (by simp at hx; simp [hx]))).alloc _).trans hch' (fun x hx=>.inr (HF.out x hx)) |>.then (hcE.mono fun x hx=>.inl (by simp at hx; simp [hx])),hqE,hbE,fun _=>trivial⟩)
        have HQE:=Lib.hid (show qs'.isOk=true→(fun w F=>(nv=n∧NamesAt w F is (.slice a1 l1 c1))∧GlobsAt w F vs (.slice a2 l2 c2)) wE (Off w4 wE (.slice va (n3 + 1) vc)) from fun _=>
         HF2.out.call (HF2.out.app (HF2.out.call (HQ0.out rfl) (HCD.out.then HC6.out) hbpl) hch' hmv') hcE hbml)
        have HOE:=Lib.hid (owns_kept hown' hcE (fun g hg hm=>by have:=hfE g hg; simp at hm; omega))
        have HFE:=Lib.hid hfE
        have HLE:=Lib.hid (lenC_eq (hbE.cell 3 _ rfl)); have HLR:=Lib.hid (lenC_eq (HM.out.blk.cell 3 _ rfl))
        have HST:=Lib.hid (show (∃ f xs' t,qs' = .ok () t∧PQ=procsL z (f + 1) xs' t∧f + xs'.length=10∧xs'.length=n3 + 1∧PrsAt wE (Off w4 wE (.slice va (n3 + 1) vc)) xs' (cs ++ [str n9,num p9,.bool b9,.slice a9 l9 m9,.slice a8 l8 m8,.slice a7 l7 m7])) ∨ ∃ en q,qs' = .bad en q∧PQ = .bad en q by
         have hV:=HV.out
         rw [procsL_next HS.out (by omega)] at hV
         cases hqx : proc z t' with
         | bad en q=>rw [hqx] at hV hqs; exact .inr ⟨en,q,hqs,hV⟩
         | ok x r4=>
          rw [hqx] at hV hqs
          obtain ⟨f,rfl⟩ : ∃ f',f=f' + 1:=⟨f - 1,by omega⟩
          have g1:=(framed_Prs xs cs).call ((framed_Prs xs cs).app ((framed_Prs xs cs).call HPR.out (HCD.out.then HC6.out) hbpl) hch' hmv') hcE hbml
          have hfx':Framed (fun w F=>PrAt w F x [str n9,num p9,.bool b9,.slice a9 l9 m9,.slice a8 l8 m8,.slice a7 l7 m7]):=⟨fun hF h=>h.mono hF,fun hc hS h=>h.kept hc hS⟩
          have g2:=hfx'.call (hfx'.app (hfx'.fresh (w3:=wD) (HV6.out x r4 hqx) HLT.out hszD) hch' hmv') hcE hbml
          exact .inl ⟨f,xs ++ [x],r4,hqs,by rw [hV]; rfl,by simp at hfx ⊢; omega,by simp; omega,PrsAt.snoc g1 g2⟩)
        clear hoD ho6 hown' hch' hmv' hsz' hb' hcE hbE hqE hfE hqs hszD hsz6
        refine And.intro hS16 ?_
        repeat ((with_reducible refine gX ?_); (first | refine wpX_nil ?_ | refine sK ?_ | refine sM fun _ _=>?_ | refine sL (hz:=by exact Z1.out) fun _ _=>?_ | refine sE fun _ _=>?_); go_wp2_with fail)
        refine stepX_ef rfl rfl (fun _ _=>?_)
        change Oper.wp _ (Oper.mk ..) ..
        go_wp2_with fail
        go_roundw
        case rel=>exact ⟨qs',va,n3 + 1,vc,_,HME.out,HQE.out,HOE.out,HFE.out,HST.out⟩
        case measure=>rw [HLE.out,HLR.out]; omega
       ·have HV:=Lib.hid hV
        have HT:=Lib.hid (rsee_q HM.out.rq [112,114,111,99])
        clear hV
        go_wp2_with fail
        refine HT.out.mono ?_; rintro _ w5 ⟨rfl,hc⟩
        simp only [R.sees]
        have H2:=Lib.hid (show RMp w4 w5 B bp bt bM z PQ #[str nv,.slice a1 l1 c1,.slice a2 l2 c2,.slice a3 n3 c3,nils] (fun w F=>((nv=n∧NamesAt w F is (.slice a1 l1 c1))∧GlobsAt w F vs (.slice a2 l2 c2))∧ProcsAt w F ps (.slice a3 n3 c3)) from
         (HM.out.step hc.weak (q':=PQ) (by rw [HV.out]; exact HM.out.rq.same hc) (fun h=>by rw [HV.out] at h; cases h)).turn (HF3.out a3 n3 c3) (fun hk=>by rw [HV.out] at hk; cases hk))
        clear hc
        go_wp2_with fail
        go_meet
        case rel=>exact ⟨a3,n3,c3,H2.out⟩
     case rest=>
      obtain ⟨a3,l3,c3,h11⟩:=hcut
      have H11:=Lib.hid h11
      clear h11
      have HF3:=Lib.hid (show Framed (fun w F=>((nv=n∧NamesAt w F is (.slice a1 l1 c1))∧GlobsAt w F vs (.slice a2 l2 c2))∧ProcsAt w F ps (.slice a3 l3 c3)) from HF2.out.and ⟨fun hF h=>h.mono hF,fun hc hS h=>h.kept hc hS⟩)
      have HOB:=Lib.hid (show O=PQ.bind fun _ r6=>(must z [98,101,103,105,110] r6).bind fun _ r=>(body0 z r).bind fun b r2=>(must z [101,110,100] r2).bind fun _ r3=>(must z [46] r3).bind fun _ r4=>.ok ⟨n,is,vs,ps,b⟩ r4 by
       rw [HOP.out]
       show (PQ.bind fun _ r6=>(block z [46] r6).bind fun b r7=>(R.ok (⟨n,is,vs,ps,b⟩ : Mod) r7))=_
       simp only [block_eq,bind_bind]; rfl)
      go_wp2_with fail
      refine (rmust_q H11.out.rq [98,101,103,105,110]).mono ?_; rintro _ w5 ⟨rfl,hc,hq⟩
      obtain ⟨qG,hqG⟩ : ∃ q,q=PQ.bind fun _=>must z [98,101,103,105,110]:=⟨_,rfl⟩
      rw [← hqG] at hq
      have H5:=Lib.hid (H11.out.step hc hq (fun h=>by rw [hqG] at h; exact bind_isOk h))
      obtain ⟨BQ,hBQ⟩ : ∃ q,q=qG.bind fun _=>body0 z:=⟨_,rfl⟩
      obtain ⟨bd,hbd⟩:=val_of S.nil BQ
      have HOZ:=Lib.hid (show O=((BQ.bind fun _=>must z [101,110,100]).bind fun _=>must z [46]).bind fun _ r4=>.ok ⟨n,is,vs,ps,bd⟩ r4 by
       rw [bind_bind,bind_bind]
       refine Eq.trans ?_ (bind_val (f:=fun b r2=>(must z [101,110,100] r2).bind fun _ r3=>(must z [46] r3).bind fun _ r4=>(R.ok (⟨n,is,vs,ps,b⟩ : Mod) r4)) hbd)
       rw [HOB.out,hBQ,hqG,bind_bind,bind_bind])
      have HBQ:=Lib.hid hBQ; have HBD:=Lib.hid hbd
      clear hc hq hqG hBQ hbd
      go_wp2_with fail
      refine (rok_q H5.out.rq).mono ?_; rintro _ w6 ⟨rfl,hc⟩
      have H6:=Lib.hid (H5.out.step hc.weak (H5.out.rq.same hc) id)
      clear hc
      go_upto_if 105 with fail
      go_cut [] (fun wx=>∃ (a4:Option Addr) (l4 c4:Nat),RMp w4 wx B bp bt bM z BQ #[str nv,.slice a1 l1 c1,.slice a2 l2 c2,.slice a3 l3 c3,.slice a4 l4 c4] (fun w F=>(((nv=n∧NamesAt w F is (.slice a1 l1 c1))∧GlobsAt w F vs (.slice a2 l2 c2))∧ProcsAt w F ps (.slice a3 l3 c3))∧SlAt w F bd (.slice a4 l4 c4)))
      case first=>
       cases qG with
       | bad en q=>
        have hbad:BQ = .bad en q:=HBQ.out
        have H7:=Lib.hid ((H6.out.as (q':=BQ) (by rw [hbad]; exact H6.out.rq) (fun h=>by rw [hbad] at h; cases h)).turn (HF3.out.and (framed_Sl bd nils)) (fun h=>by rw [hbad] at h; cases h))
        simp only [R.isOk]
        clear hbad
        go_wp2_with fail
        go_meet
        case rel=>exact ⟨none,0,0,H7.out⟩
       | ok u t5=>
        simp only [R.isOk]
        go_wp2_with fail
        refine (rbody0_any w6 B bp bt z t5 H6.out.rq).mono ?_; rintro _ w7 ⟨hc,_,rfl,⟨a4,l4,c4,rfl⟩,hq,hv⟩
        have hB5:BQ=body0 z t5:=HBQ.out
        have H7:=Lib.hid ((H6.out.call hc (q':=BQ) (by rw [hB5]; exact hq) (fun _=>rfl) (framed_when BQ (fun t=>framed_Sl t (.slice a4 l4 c4))) (fun _=>by rw [hB5]; exact hv)).turn (HF3.out.and (framed_Sl bd (.slice a4 l4 c4))) (fun hk hQ=>⟨hQ.1,by obtain ⟨a,r,e⟩:=isOk_ok hk; have:=hQ.2 a r e; rw [HBD.out a r e] at this; exact this⟩))
        obtain ⟨_,_,_,_,e4⟩:=H7.out.blk.five; have f4:=H7.out.blk.frozen 4
        obtain ⟨w8,hw8⟩ : ∃ x,w7.setCell ⟨bM,4,none⟩ (.slice a4 l4 c4)=x:=⟨_,rfl⟩
        have H8:=Lib.hid (H7.out.store 4 (.slice a4 l4 c4))
        simp only [List.setIfInBounds_toArray,Array.setIfInBounds] at H8
        rw [hw8] at H8
        clear hc hq hv hB5
        go_wp2_with fail
        go_meet
        case rel=>exact ⟨a4,l4,c4,H8.out⟩
      case rest=>
       obtain ⟨a4,l4,c4,h12⟩:=hcut
       have H12:=Lib.hid h12
       clear h12
       go_wp2_with fail
       refine (rmust_q H12.out.rq [101,110,100]).mono ?_; rintro _ w7 ⟨rfl,hc,hq⟩
       have H7:=Lib.hid (H12.out.step hc hq bind_isOk)
       clear hc hq
       go_wp2_with fail
       refine (rmust_q H7.out.rq [46]).mono ?_; rintro _ w8 ⟨rfl,hc,hq⟩
       obtain ⟨ZQ,hZQ⟩ : ∃ q,q=(BQ.bind fun _=>must z [101,110,100]).bind fun _=>must z [46]:=⟨_,rfl⟩
       rw [← hZQ] at hq HOZ
       have H8:=Lib.hid (H7.out.step hc hq (fun h=>by rw [hZQ] at h; exact bind_isOk h))
       clear hc hq hZQ
       obtain ⟨st,t9,hp9,ht9⟩:=H8.out.rq.st
       obtain ⟨off3,cc,kk,tt,HH,⟨b0,b1,b2⟩,g0,g1,g2⟩:=hp9.cells
       have HKK:=Lib.hid HH.out.2.2.eq.1; have HT9:=Lib.hid ht9
       clear hp9 ht9
       go_upto_if 120 with fail
       go_cut [] (fun wx=>∃ ZR:R Unit,RMp w4 wx B bp bt bM z ZR #[str nv,.slice a1 l1 c1,.slice a2 l2 c2,.slice a3 l3 c3,.slice a4 l4 c4] (fun w F=>(((nv=n∧NamesAt w F is (.slice a1 l1 c1))∧GlobsAt w F vs (.slice a2 l2 c2))∧ProcsAt w F ps (.slice a3 l3 c3))∧SlAt w F bd (.slice a4 l4 c4)) ∧
        (∀ en q,ZR = .bad en q→parse l = .bad en q) ∧ ∀ u r,ZR = .ok u r→parse l = .ok ⟨n,is,vs,ps,bd⟩)
       case first=>
        clear b0 b1 b2 g0 g1 g2
        cases hk : (kk != (4:Int)) with
        | true=>
         go_wp2_with fail
         refine (rfails_q (β:=Unit) H8.out.rq 3 (by decide)).mono ?_; rintro _ w9 ⟨rfl,hc,hq⟩
         have H9:=Lib.hid (H8.out.step hc hq (fun h=>by cases ZQ with | ok a r=>rfl | bad e q=>cases h))
         clear hc hq
         go_wp2_with fail
         go_meet
         case rel=>
          refine ⟨_,H9.out,fun en q e=>?_,fun u r e=>by cases ZQ <;> cases e⟩
          rw [HRES.out,HOZ.out]
          cases hz:ZQ with
          | bad en' q'=>rw [hz] at e; cases e; rfl
          | ok u r=>
           rw [hz] at e; cases e
           have:=HT9.out u r hz
           subst this
           cases r with
           | nil=>rw [HKK.out] at hk; cases hk
           | cons t r'=>rfl
        | false=>
         go_wp2_with fail
         go_meet
         case rel=>
          refine ⟨ZQ.bind fun _ r=>.ok () r,H8.out.as H8.out.rq.done bind_isOk,fun en q e=>?_,fun u r e=>?_⟩
          ·rw [HRES.out,HOZ.out]
           cases ZQ with
           | bad en' q'=>cases e; rfl
           | ok u r=>cases e
          ·rw [HRES.out,HOZ.out]
           cases hz:ZQ with
           | bad en' q'=>rw [hz] at e; cases e
           | ok u' r'=>
            rw [hz] at e; cases e
            have:=HT9.out u' r hz
            subst this
            cases r with
            | nil=>rfl
            | cons t r'=>
             have h4 : (tokK (t :: r') != 4)=true:=by cases h : t.kind <;> simp [tokK,h,Kind.num]
             rw [HKK.out,h4] at hk; cases hk
       case rest=>
        obtain ⟨ZR,h13,hbad,hok⟩:=hcut
        have H13:=Lib.hid h13; have HBAD:=Lib.hid hbad; have HOKK:=Lib.hid hok
        clear h13 hbad hok b0 b1 b2 g0 g1 g2
        go_wp2_with fail
        refine (rok_q H13.out.rq).mono ?_; rintro _ w9 ⟨rfl,hc⟩
        obtain ⟨wD,hwD⟩ : ∃ x,x=w9.drew:=⟨_,rfl⟩
        have hcD:Chg [] wc wD:=hwD ▸ hc.drew
        have hD:=H13.out.step hcD.weak (H13.out.rq.same hcD) id
        have hs4:=HS4.out
        have hc0D:Chg [bp,bM] w0 wD:=HC4.out.weak.then hD.chg
        have hmD:=HM0.out.kept hc0D (by simp; omega); have hfD:=HF0.out.kept hc0D (by simp; omega)
        have HD:=Lib.hid hD
        have HC0D:=Lib.hid hc0D
        have mf0:=hmD.frozen 0; have mf1:=hmD.frozen 1; have mf2:=hmD.frozen 2; have mf3:=hmD.frozen 3; have mf4:=hmD.frozen 4
        obtain ⟨m0,m1,m2,m3,m4⟩:=hmD.five
        cases ZR with
        | bad en q=>
         obtain ⟨ts9,hp9⟩:=HD.out.rq
         obtain ⟨off4,cc4,kk4,tt4,HH4,⟨_,b1,b2⟩,_,_,_⟩:=hp9.cells
         simp only [badE,badP] at b1 b2
         have Z1:=Lib.hid (Zone.of (X:=[w.heap.size,w.heap.size + 1]) (w0:=wD) b1 (by simp; omega))
         clear hp9
         obtain ⟨wX,hwX,hcX,hbX⟩:=Tree.set5 (str []) nils nils nils nils hmD
         have hfX:=hfD.kept hcX (by simp)
         have k0:=hfX.cell 0 _ rfl; have k1:=hfX.cell 1 _ rfl; have kf0:=hfX.frozen 0; have kf1:=hfX.frozen 1
         obtain ⟨wY,hwY,hcY,hbY⟩:=set2 (num en) (num q) hfX
         have hbXY:=hbX.kept hcY (by simp)
         obtain ⟨a0',a1',a2',a3',a4'⟩:=hbXY.five
         have y0:=hbY.cell 0 _ rfl; have y1:=hbY.cell 1 _ rfl
         have hS1:Chg [w.heap.size,w.heap.size + 1] wD wX:=hcX.mono fun x hx=>.inl (by simp at hx; simp [hx])
         have hS2:Chg [w.heap.size,w.heap.size + 1] wD wY:=hS1.then (hcY.mono fun x hx=>.inl (by simp at hx; simp [hx]))
         have HCY:=Lib.hid (show Chg [] w wY from (HC0.out.trans HC0D.out (fun x hx=>.inr (by simp at hx; omega))).trans hS2 (fun x hx=>.inr (by simp at hx; omega)))
         have HSY:=Lib.hid hS2
         clear hc hcD hD hc0D hmD hfD hcX hbX hfX hcY hbY hbXY
         simp only [R.isOk]
         go_wp2_with fail
         refine wp_region_C [w.heap.size,w.heap.size + 1] rfl (by kernel_rfl) ?_
         rw [← hwD]
         clear hwD
         have hS:Chg [w.heap.size,w.heap.size + 1] wD wD:=Chg.refl _ _
         repeat ((with_reducible refine gX ?_); (first | refine wpX_nil ?_ | refine sK ?_ | refine sM fun _ _=>?_ | refine sL (hz:=by exact Z1.out) fun _ _=>?_ | refine sE fun _ _=>?_); go_wp2_with fail)
         refine And.intro hS1 ?_
         repeat ((with_reducible refine gX ?_); (first | refine wpX_nil ?_ | refine sK ?_ | refine sM fun _ _=>?_ | refine sL (hz:=by exact Z1.out) fun _ _=>?_ | refine sE fun _ _=>?_); go_wp2_with fail)
         refine And.intro hS2 ?_
         repeat ((with_reducible refine gX ?_); (first | refine wpX_nil ?_ | refine sK ?_ | refine sM fun _ _=>?_ | refine sL (hz:=by exact Z1.out) fun _ _=>?_ | refine sE fun _ _=>?_); go_wp2_with fail)
         refine bodyPost_ret (v:=.tuple #[.agg #[str [],nils,nils,nils,nils],.agg #[num en,num q]]) (by simp [results,Tryz.results9,go_sem,a0',a1',a2',a3',a4',y0,y1]) rfl ?_
         rw [HBAD.out en q rfl]
         exact ⟨HCY.out,rfl⟩
        | ok u r=>
         obtain ⟨st9,ts9,hp9,_⟩:=HD.out.rq.st
         have z0:=hp9.laid.fine0; have z1:=hp9.laid.fine1
         have hfb:=hp9.laid.fineB
         obtain ⟨n0,n1,n2,n3,n4⟩:=HD.out.blk.five
         have Z1:=Lib.hid (Zone.of (X:=[w.heap.size,w.heap.size + 1]) (w0:=wD) n0 (by simp; omega)); have Z2:=Lib.hid (Zone.of (X:=[w.heap.size,w.heap.size + 1]) (w0:=wD) z0 (by simp only [List.mem_cons,List.not_mem_nil,or_false]; omega))
         clear hp9
         obtain ⟨wX,hwX,hcX,hbX⟩:=Tree.set5 (str nv) (.slice a1 l1 c1) (.slice a2 l2 c2) (.slice a3 l3 c3) (.slice a4 l4 c4) hmD
         have hfX:=hfD.kept hcX (by simp)
         have k0:=hfX.cell 0 _ rfl; have k1:=hfX.cell 1 _ rfl; have kf0:=hfX.frozen 0; have kf1:=hfX.frozen 1
         obtain ⟨wY,hwY,hcY,hbY⟩:=set2 (num 0) (num (-1)) hfX
         have hbXY:=hbX.kept hcY (by simp)
         obtain ⟨a0',a1',a2',a3',a4'⟩:=hbXY.five
         have y0:=hbY.cell 0 _ rfl; have y1:=hbY.cell 1 _ rfl
         have hS1:Chg [w.heap.size,w.heap.size + 1] wD wX:=hcX.mono fun x hx=>.inl (by simp at hx; simp [hx])
         have hS2:Chg [w.heap.size,w.heap.size + 1] wD wY:=hS1.then (hcY.mono fun x hx=>.inl (by simp at hx; simp [hx]))
         have HCY:=Lib.hid (show Chg [] w wY from (HC0.out.trans HC0D.out (fun x hx=>.inr (by simp at hx; omega))).trans hS2 (fun x hx=>.inr (by simp at hx; omega)))
         have HSY:=Lib.hid hS2
         clear hc hcD hD hc0D hmD hfD hcX hbX hfX hcY hbY hbXY
         simp only [R.isOk]
         go_wp2_with fail
         refine wp_region_C [w.heap.size,w.heap.size + 1] rfl (by kernel_rfl) ?_
         rw [← hwD]
         clear hwD
         have hS:Chg [w.heap.size,w.heap.size + 1] wD wD:=Chg.refl _ _
         repeat ((with_reducible refine gX ?_); (first | refine wpX_nil ?_ | refine sK ?_ | refine sM fun _ _=>?_ | refine sL (hz:=by first | exact Z1.out | exact Z2.out) fun _ _=>?_ | refine sE fun _ _=>?_); go_wp2_with fail)
         refine And.intro hS1 ?_
         repeat ((with_reducible refine gX ?_); (first | refine wpX_nil ?_ | refine sK ?_ | refine sM fun _ _=>?_ | refine sL (hz:=by first | exact Z1.out | exact Z2.out) fun _ _=>?_ | refine sE fun _ _=>?_); go_wp2_with fail)
         refine And.intro hS2 ?_
         repeat ((with_reducible refine gX ?_); (first | refine wpX_nil ?_ | refine sK ?_ | refine sM fun _ _=>?_ | refine sL (hz:=by first | exact Z1.out | exact Z2.out) fun _ _=>?_ | refine sE fun _ _=>?_); go_wp2_with fail)
         refine bodyPost_ret (v:=.tuple #[.agg #[str nv,.slice a1 l1 c1,.slice a2 l2 c2,.slice a3 l3 c3,.slice a4 l4 c4],.agg #[num 0,num (-1)]]) (by simp [results,Tryz.results9,go_sem,a0',a1',a2',a3',a4',y0,y1]) rfl ?_
         rw [HOKK.out u r rfl]
         have hv:=(HD.out.fr.going (HD.out.val rfl) HSY.out (fun x hx=>by simp at hx; omega))
         have hv:=HD.out.fr.mono (G:=New w wY) (fun x hx=>⟨by have:=hx.1; omega,hx.2⟩) hv
         obtain ⟨⟨⟨⟨hnn,h1⟩,h2⟩,h3⟩,h4⟩:=hv
         refine ⟨HCY.out,_,rfl,_,_,_,_,by rw [← hnn],h1,h2,h3,h4⟩
end Go.Proofs.YtojkkgghndeimaaGreatDoor
