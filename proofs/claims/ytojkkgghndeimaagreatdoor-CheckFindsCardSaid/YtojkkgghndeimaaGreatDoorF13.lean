/- Some texts in one. -/
import Derived.Test.YtojkkgghndeimaaGreatDoorF9
import Derived.Test.YtojkkgghndeimaaGreatDoorF11
namespace Go.Mq.Ref
open Go Go.RowKit Go.Mq Go.Mq.Tree
def RLexOut (w:World) (z:Nat) (r:LexR) (e:Ending) (w':World):Prop:=Chg [] w w'∧match r with
 | .ok ts=>∃ a c,e = .returned (.tuple #[.slice a (ts.length + 1) c,.agg #[num 0,num (-1)]])∧ts.length + 1≤c∧Row w' (New w w') a (toksCells z ts)∧ts.length≤600∧(∀ t∈ts,t.text.length≤4000000000) ∧ ∀ t∈ts,t.kind = .number → ∃ c r,t.text=c :: r∧c.toNat≠43∧c.toNat≠45
 | .bad en p=>e = .returned (.tuple #[nils,.agg #[num en,num p]])
theorem nextK_markN {c:UInt8} {t:List UInt8} (h : letter c=false) (h2 : digit c=false) : nextK (c :: t)=(.mark,markN (c :: t)):=by
 rw [nextK,if_neg (by simp [h]),if_neg (by simp [h2]),mark_is]
theorem nextK_digs {c:UInt8} {t:List UInt8} {n:Nat} (h : (nextK (c :: t)).1 = .number) (hn : n≠0) : ∃ c' r,(c :: t).take n=c' :: r∧c'.toNat≠43∧c'.toNat≠45:=by
 obtain ⟨n,rfl⟩ : ∃ m,n=m + 1:=⟨n - 1,by omega⟩
 refine ⟨c,t.take n,by simp,?_⟩
 rw [nextK] at h
 split at h
 ·cases h
 ·split at h
  ·next hd=>simp [digit] at hd; omega
  ·cases h
end Go.Mq.Ref
namespace Go.Proofs.YtojkkgghndeimaaGreatDoor
open Go Go.RowKit Go.Mq Go.Mq.Tree Go.Mq.Ref
set_option maxRecDepth 100000
set_option maxHeartbeats 4000000
theorem rlow_any (c:UInt8) (w:World):Calls Tryz.prog 93 #[.int .u8 c.toNat] w (fun e w'=>e = .returned (.bool (letter c))∧w'=w):=by
 obtain ⟨n,hn⟩ : ∃ n:Nat,n=c.toNat:=⟨_,rfl⟩
 have HL:=Lib.hid (show letter c=(decide (97≤n) && decide (n≤122)) by rw [letter,hn])
 rw [← hn]
 clear hn
 cases h1 : decide (97≤n) with
 | false=>
  have h1' : decide ((97:Int)≤(n:Int))=false:=by have:=of_decide_eq_false h1; simp; omega
  rw [h1] at HL
  clear h1
  go_enter Tryz.func93,Tryz.ntmps93
  go_wp2_with fail
  go_ret
  rw [HL.out]
  exact ⟨rfl,rfl⟩
 | true=>
  have h1' : decide ((97:Int)≤(n:Int))=true:=by have:=of_decide_eq_true h1; simp; omega
  have h2' : decide ((n:Int)≤122)=decide (n≤122):=by by_cases h : n≤122 <;> simp [h] <;> omega
  rw [h1] at HL
  clear h1
  go_enter Tryz.func93,Tryz.ntmps93
  go_wp2_with fail
  go_ret
  rw [HL.out,← h2']
  exact ⟨rfl,rfl⟩
theorem rdig_any (c:UInt8) (w:World):Calls Tryz.prog 94 #[.int .u8 c.toNat] w (fun e w'=>e = .returned (.bool (digit c))∧w'=w):=by
 obtain ⟨n,hn⟩ : ∃ n:Nat,n=c.toNat:=⟨_,rfl⟩
 have HL:=Lib.hid (show digit c=(decide (48≤n) && decide (n≤57)) by rw [digit,hn])
 rw [← hn]
 clear hn
 cases h1 : decide (48≤n) with
 | false=>
  have h1' : decide ((48:Int)≤(n:Int))=false:=by have:=of_decide_eq_false h1; simp; omega
  rw [h1] at HL
  clear h1
  go_enter Tryz.func94,Tryz.ntmps94
  go_wp2_with fail
  go_ret
  rw [HL.out]
  exact ⟨rfl,rfl⟩
 | true=>
  have h1' : decide ((48:Int)≤(n:Int))=true:=by have:=of_decide_eq_true h1; simp; omega
  have h2' : decide ((n:Int)≤57)=decide (n≤57):=by by_cases h : n≤57 <;> simp [h] <;> omega
  rw [h1] at HL
  clear h1
  go_enter Tryz.func94,Tryz.ntmps94
  go_wp2_with fail
  go_ret
  rw [HL.out,← h2']
  exact ⟨rfl,rfl⟩
theorem infoRTok : (Tryz.prog.info? 82).map (fun i=>(i.zero,i.size,i.bytes))=some (some (.agg #[.int .i64 0,.string ⟨#[]⟩,.int .i64 0]),3,32):=by kernel_rfl
theorem rtokens_any (l:List UInt8) (hl : l.length≤4000000000) (w:World) (B:Nat) (hL:RLaid w B):Calls Tryz.prog 37 #[str l] w (RLexOut w l.length (lex l)):=by
 obtain ⟨s,hs⟩ : ∃ s,s=bs l:=⟨_,rfl⟩
 have hsz : s.size=l.length:=by rw [hs]; rfl
 have HS:=Lib.hid hs
 have HL:=Lib.hid hL
 obtain ⟨w0,hw0⟩ : ∃ x,x=w.alloc (.cells #[num 0,num 0] 34):=⟨_,rfl⟩
 have HB0:=Lib.hid (show Blk w0 w.heap.size #[num 0,num 0] 34 from hw0 ▸ Blk.new w _ _)
 have HC0:=Lib.hid (show Chg [] w w0 from hw0 ▸ (Chg.refl _ _).alloc _)
 have hs0 : w0.heap.size=w.heap.size + 1:=by rw [hw0]; simp
 show Calls Tryz.prog 37 #[.string (bs l)] w _
 rw [← hs]
 have HW0:=Lib.hid hw0
 clear hs hL hw0
 go_enter Tryz.func37,Tryz.ntmps37
 go_wp2_with fail
 rw [← HW0.out]
 go_loopw [4,5,6,7,8,9] (fun lv iv _ _ _ _ wr=>∃ (f i:Nat) (acc:List Tok),iv = .int .i64 i∧i≤l.length∧lex l=(lexL f i acc.length (l.drop i)).ahead acc∧l.length - i≤f∧acc.length≤600∧((∀ t∈acc,t.text.length≤4000000000) ∧ ∀ t∈acc,t.kind = .number → ∃ c r,t.text=c :: r∧c.toNat≠43∧c.toNat≠45) ∧
   wr.ownsRow 0 82 3 lv acc.length (acc.flatMap Tok.cells)∧From w0.heap.size lv∧Chg [] w0 wr) (fun _ iv _ _ _ _ _=>l.length - (intOf iv).toNat)
 case atStart=>exact ⟨l.length,0,[],rfl,Nat.zero_le _,by rw [List.drop_zero,lex]; cases lexL l.length 0 0 l <;> rfl,Nat.sub_le _ _,Nat.zero_le _,⟨fun _ h=>(by cases h),fun _ h=>(by cases h)⟩,World.ownsRow_nil _ _ _ _,From.nil _,Chg.refl _ _⟩
 case round=>
  obtain ⟨f,i,acc,rfl,hi,hr,hf,ha,hsh,ho,hF,hC⟩:=hrel
  have HR:=Lib.hid hr; have HSH:=Lib.hid hsh; have HO:=Lib.hid ho; have HF:=Lib.hid hF; have HC:=Lib.hid hC
  obtain ⟨sa,sc,hsl⟩:=slice_of_owns ho
  have hsw:=hC.size
  have HB1:=Lib.hid (HB0.out.kept hC (by simp))
  clear hr hsh ho hF hC
  subst hsl
  by_cases hlt : i < l.length
  ·have hdec : decide ((i:Int) < (s.size:Int))=true:=by simp; omega
   obtain ⟨c,hcc⟩ : ∃ c,l[i]?=some c:=⟨l[i],List.getElem?_eq_getElem hlt⟩
   have hdrop : l.drop i=c :: l.drop (i + 1):=by
    rw [List.drop_eq_getElem_cons hlt]
    congr 1
    rw [List.getElem?_eq_getElem hlt] at hcc
    exact Option.some.inj hcc
   obtain ⟨f,rfl⟩ : ∃ f',f=f' + 1:=⟨f - 1,by omega⟩
   have hidx:=run_index_str (P:=Tryz.prog) Tryz.underlying9 (show s[i]?=some c by rw [HS.out,bs_get]; exact hcc)
   have HD:=Lib.hid hdrop
   have HBE:=Lib.hid (gap_eq c)
   have HLO:=Lib.hid (rlow_any c); have HDI:=Lib.hid (rdig_any c)
   obtain ⟨n0,hn0⟩ : ∃ n:Nat,n=c.toNat:=⟨_,rfl⟩
   rw [← hn0] at hidx HBE HLO HDI
   clear hn0 hcc hdrop
   cases hb : gap c with
   | true=>
    have HRR:=Lib.hid (show lex l=(lexL f (i + 1) acc.length (l.drop (i + 1))).ahead acc by rw [HR.out,HD.out,lexL_gap hb])
    rw [hb] at HBE
    clear hb
    cases h1 : ((n0:Int) == 32) with
    | true=>
     clear HBE
     go_wp2_with fail
     exact ⟨⟨f,i + 1,acc,by go_num,by omega,HRR.out,by omega,ha,HSH.out,HO.out,HF.out,HC.out⟩,by simp [intOf]; omega⟩
    | false=>
     have h2 : ((n0:Int) == 10)=true:=by have:=HBE.out; rw [h1] at this; simpa using this.symm
     clear HBE
     go_wp2_with fail
     exact ⟨⟨f,i + 1,acc,by go_num,by omega,HRR.out,by omega,ha,HSH.out,HO.out,HF.out,HC.out⟩,by simp [intOf]; omega⟩
   | false=>
    have hbe:=HBE.out
    rw [hb] at hbe
    obtain ⟨h1,h2⟩:=Bool.or_eq_false_iff.1 hbe.symm
    have HB:=Lib.hid hb
    clear hbe HBE hb
    obtain ⟨wL,hwl⟩ : ∃ x,x=wr:=⟨_,rfl⟩
    subst hwl
    cases hlo : letter c
    case' true=>
     rw [hlo] at HLO
     go_wp2_with fail
     refine (HLO.out _).mono ?_; rintro _ w2 ⟨rfl,hw⟩
     have hw:=hw.symm; subst hw
     obtain ⟨wA,hwA⟩ : ∃ x,x=wL.alloc (.cells #[num 1,str [],num i] 82):=⟨_,rfl⟩
     have HWA:=Lib.hid hwA
     clear hwA
     go_wp2_with fail
     rw [← HWA.out]
     go_loopw [7] (fun kv wx=>∃ k:Nat,kv=num k∧i≤k∧k≤l.length∧wx=wA∧howN (fun c=>letter c || digit c) (l.drop i)=(k - i) + howN (fun c=>letter c || digit c) (l.drop k)) (fun kv _=>l.length - (intOf kv).toNat)
     case atStart=>exact ⟨i,rfl,Nat.le_refl _,by omega,rfl,by simp⟩
     case' round=>
      obtain ⟨k,rfl,hik,hkl,rfl,hr2⟩:=hrel
      obtain ⟨kd,hkd⟩ : ∃ kd:Nat,kd=1:=⟨_,rfl⟩
      have HKD:=Lib.hid (show Kind.word.num=kd from hkd.symm)
      have HBT2:=Lib.hid (show Blk wr wL.heap.size #[num kd,str [],num i] 82 by rw [HWA.out,hkd]; exact Blk.new wL _ _)
      have HC2:=Lib.hid (show Chg [] wL wr by rw [HWA.out]; exact (Chg.refl _ _).alloc _)
      have HR2:=Lib.hid hr2
      clear hr2 hkd
      cases hkk : decide (k < l.length)
      case' false=>
       have hdec2 : decide ((k:Int) < (s.size:Int))=false:=by have:=of_decide_eq_false hkk; simp; omega
       have hdec3 : decide (k < l.length)=false:=hkk
       have hdec4 : ¬ (k < l.length):=of_decide_eq_false hkk
       have HNK:=Lib.hid (show nextK (c :: l.drop (i + 1))=(Kind.word,k - i) by rw [nextK_letter hlo,← HD.out,HR2.out,List.drop_eq_nil_of_le (by have:=of_decide_eq_false hkk; omega)]; rfl)
       obtain ⟨wE,rfl⟩ : ∃ x,x=wr:=⟨_,rfl⟩
       clear hkk
       have hk : k≠i:=fun e=>by have:=HNK.out; rw [nextK_letter hlo,howN,if_pos (by rw [hlo]; rfl)] at this; simp [e] at this
       obtain ⟨KK,hKK⟩ : ∃ K,K=Kind.word:=⟨_,rfl⟩
       rw [← hKK] at HNK HKD
       clear hKK
      case' true=>
       have hkl2 : k < l.length:=of_decide_eq_true hkk
       have hdec2 : decide ((k:Int) < (s.size:Int))=true:=by simp; omega
       obtain ⟨c2,hcc⟩ : ∃ c,l[k]?=some c:=⟨l[k],List.getElem?_eq_getElem hkl2⟩
       have HD2:Hid (l.drop k=c2 :: l.drop (k + 1)):=Lib.hid (by
        rw [List.drop_eq_getElem_cons hkl2]
        congr 1
        rw [List.getElem?_eq_getElem hkl2] at hcc
        exact Option.some.inj hcc)
       have hidx2:=run_index_str (P:=Tryz.prog) Tryz.underlying9 (show s[k]?=some c2 by rw [HS.out,bs_get]; exact hcc)
       have HLO2:=Lib.hid (rlow_any c2); have HDI2:=Lib.hid (rdig_any c2)
       obtain ⟨n2,hn2⟩ : ∃ n:Nat,n=c2.toNat:=⟨_,rfl⟩
       rw [← hn2] at hidx2 HLO2 HDI2
       clear hn2 hcc hkk
       cases hl2 : letter c2
       case true=>
        rw [hl2] at HLO2
        have HNN:=Lib.hid (show howN (fun c=>letter c || digit c) (l.drop i)=(k + 1 - i) + howN (fun c=>letter c || digit c) (l.drop (k + 1)) by rw [HR2.out,HD2.out,howN,if_pos (by rw [hl2]; rfl)]; omega)
        clear hl2
        go_wp2_with fail
        refine (HLO2.out _).mono ?_; rintro _ w2 ⟨rfl,hw⟩
        have hw:=hw.symm; subst hw
        go_wp2_with fail
        exact ⟨⟨k + 1,by go_num,by omega,by omega,by first | rfl | trivial,HNN.out⟩,by simp [intOf]; omega⟩
       rw [hl2] at HLO2
       go_wp2_with fail
       refine (HLO2.out _).mono ?_; rintro _ w2 ⟨rfl,hw⟩
       have hw:=hw.symm; subst hw
       go_wp2_with fail
       refine (HDI2.out _).mono ?_; rintro _ w2 ⟨rfl,hw⟩
       have hw:=hw.symm; subst hw
       cases hd2 : digit c2
       case true=>
        have HNN:=Lib.hid (show howN (fun c=>letter c || digit c) (l.drop i)=(k + 1 - i) + howN (fun c=>letter c || digit c) (l.drop (k + 1)) by rw [HR2.out,HD2.out,howN,if_pos (by rw [hl2,hd2]; rfl)]; omega)
        clear hl2 hd2
        go_wp2_with fail
        exact ⟨⟨k + 1,by go_num,by omega,by omega,by first | rfl | trivial,HNN.out⟩,by simp [intOf]; omega⟩
       have HNK:=Lib.hid (show nextK (c :: l.drop (i + 1))=(Kind.word,k - i) by rw [nextK_letter hlo,← HD.out,HR2.out,HD2.out,howN,if_neg (by rw [hl2,hd2]; simp)]; rfl)
       obtain ⟨wE,rfl⟩ : ∃ x,x=wr:=⟨_,rfl⟩
       clear hl2 hd2 HLO2 HDI2 HD2 hkl2
       have hk : k≠i:=fun e=>by have:=HNK.out; rw [nextK_letter hlo,howN,if_pos (by rw [hlo]; rfl)] at this; simp [e] at this
       obtain ⟨KK,hKK⟩ : ∃ K,K=Kind.word:=⟨_,rfl⟩
       rw [← hKK] at HNK HKD
       clear hKK
    rotate_left 2
    case' false=>
     rw [hlo] at HLO
     go_wp2_with fail
     refine (HLO.out _).mono ?_; rintro _ w2 ⟨rfl,hw⟩
     have hw:=hw.symm; subst hw
     cases hdi : digit c
     case' true=>
      rw [hdi] at HDI
      go_wp2_with fail
      refine (HDI.out _).mono ?_; rintro _ w2 ⟨rfl,hw⟩
      have hw:=hw.symm; subst hw
      obtain ⟨wA,hwA⟩ : ∃ x,x=wL.alloc (.cells #[num 2,str [],num i] 82):=⟨_,rfl⟩
      have HWA:=Lib.hid hwA
      clear hwA
      go_wp2_with fail
      rw [← HWA.out]
      go_loopw [7] (fun kv wx=>∃ k:Nat,kv=num k∧i≤k∧k≤l.length∧wx=wA∧howN digit (l.drop i)=(k - i) + howN digit (l.drop k)) (fun kv _=>l.length - (intOf kv).toNat)
      case atStart=>exact ⟨i,rfl,Nat.le_refl _,by omega,rfl,by simp⟩
      case' round=>
       obtain ⟨k,rfl,hik,hkl,rfl,hr2⟩:=hrel
       obtain ⟨kd,hkd⟩ : ∃ kd:Nat,kd=2:=⟨_,rfl⟩
       have HKD:=Lib.hid (show Kind.number.num=kd from hkd.symm)
       have HBT2:=Lib.hid (show Blk wr wL.heap.size #[num kd,str [],num i] 82 by rw [HWA.out,hkd]; exact Blk.new wL _ _)
       have HC2:=Lib.hid (show Chg [] wL wr by rw [HWA.out]; exact (Chg.refl _ _).alloc _)
       have HR2:=Lib.hid hr2
       clear hr2 hkd
       cases hkk : decide (k < l.length)
       case' false=>
        have hdec2 : decide ((k:Int) < (s.size:Int))=false:=by have:=of_decide_eq_false hkk; simp; omega
        have hdec3 : decide (k < l.length)=false:=hkk
        have hdec4 : ¬ (k < l.length):=of_decide_eq_false hkk
        have HNK:=Lib.hid (show nextK (c :: l.drop (i + 1))=(Kind.number,k - i) by rw [nextK_digit hlo hdi,← HD.out,HR2.out,List.drop_eq_nil_of_le (by have:=of_decide_eq_false hkk; omega)]; rfl)
        obtain ⟨wE,rfl⟩ : ∃ x,x=wr:=⟨_,rfl⟩
        clear hkk
        have hk : k≠i:=fun e=>by have:=HNK.out; rw [nextK_digit hlo hdi,howN,if_pos (hdi)] at this; simp [e] at this
        obtain ⟨KK,hKK⟩ : ∃ K,K=Kind.number:=⟨_,rfl⟩
        rw [← hKK] at HNK HKD
        clear hKK
       case' true=>
        have hkl2 : k < l.length:=of_decide_eq_true hkk
        have hdec2 : decide ((k:Int) < (s.size:Int))=true:=by simp; omega
        obtain ⟨c2,hcc⟩ : ∃ c,l[k]?=some c:=⟨l[k],List.getElem?_eq_getElem hkl2⟩
        have HD2:Hid (l.drop k=c2 :: l.drop (k + 1)):=Lib.hid (by
         rw [List.drop_eq_getElem_cons hkl2]
         congr 1
         rw [List.getElem?_eq_getElem hkl2] at hcc
         exact Option.some.inj hcc)
        have hidx2:=run_index_str (P:=Tryz.prog) Tryz.underlying9 (show s[k]?=some c2 by rw [HS.out,bs_get]; exact hcc)
        have HLO2:=Lib.hid (rlow_any c2); have HDI2:=Lib.hid (rdig_any c2)
        obtain ⟨n2,hn2⟩ : ∃ n:Nat,n=c2.toNat:=⟨_,rfl⟩
        rw [← hn2] at hidx2 HLO2 HDI2
        clear hn2 hcc hkk
        cases hd2 : digit c2
        case true=>
         rw [hd2] at HDI2
         have HNN:=Lib.hid (show howN digit (l.drop i)=(k + 1 - i) + howN digit (l.drop (k + 1)) by rw [HR2.out,HD2.out,howN,if_pos hd2]; omega)
         clear hd2
         go_wp2_with fail
         refine (HDI2.out _).mono ?_; rintro _ w2 ⟨rfl,hw⟩
         have hw:=hw.symm; subst hw
         go_wp2_with fail
         exact ⟨⟨k + 1,by go_num,by omega,by omega,by first | rfl | trivial,HNN.out⟩,by simp [intOf]; omega⟩
        rw [hd2] at HDI2
        have HNK:=Lib.hid (show nextK (c :: l.drop (i + 1))=(Kind.number,k - i) by rw [nextK_digit hlo hdi,← HD.out,HR2.out,HD2.out,howN,if_neg (by rw [hd2]; simp)]; rfl)
        clear hd2 HLO2 HD2
        go_wp2_with fail
        refine (HDI2.out _).mono ?_; rintro _ w2 ⟨rfl,hw⟩
        have hw:=hw.symm; subst hw
        obtain ⟨wE,rfl⟩ : ∃ x,x=wr:=⟨_,rfl⟩
        clear HDI2 hkl2
        have hk : k≠i:=fun e=>by have:=HNK.out; rw [nextK_digit hlo hdi,howN,if_pos (hdi)] at this; simp [e] at this
        obtain ⟨KK,hKK⟩ : ∃ K,K=Kind.number:=⟨_,rfl⟩
        rw [← hKK] at HNK HKD
        clear hKK
     rotate_left 2
     case' false=>
      rw [hdi] at HDI
      go_wp2_with fail
      refine (HDI.out _).mono ?_; rintro _ w2 ⟨rfl,hw⟩
      have hw:=hw.symm; subst hw
      obtain ⟨wA,hwA⟩ : ∃ x,x=wL.alloc (.cells #[num 3,str [],num i] 82):=⟨_,rfl⟩
      have HWA:=Lib.hid hwA
      clear hwA
      obtain ⟨N,hN⟩ : ∃ N,N=markN (l.drop i):=⟨_,rfl⟩
      have HNM:=Lib.hid (show nextK (c :: l.drop (i + 1))=(Kind.mark,N) by rw [nextK_markN hlo hdi,hN,HD.out])
      have HN:=Lib.hid (show N=if i + 2≤l.length∧marks.contains ((l.drop i).take 2)=true then 2 else if marks.contains ((l.drop i).take 1)=true then 1 else 0 by
       rw [hN,markN]
       simp only [List.length_drop]
       by_cases h2 : i + 2≤l.length
       ·simp [h2,show 2≤l.length - i by omega,show 1≤l.length - i by omega]
       ·simp [h2,show ¬ 2≤l.length - i by omega,show 1≤l.length - i by omega])
      have HON:Hid (∀ (n:Nat) (w':World),RLaid w' B→Calls Tryz.prog 95 #[.string (s.extract i (i + n)),str [58,61,32,60,61,32,62,61,32,35,32,61,32,60,32,62,32,43,32,45,32,42,32,40,32,41,32,91,32,93,32,44,32,59,32,58,32,46]] w' (fun e w''=>e = .returned (.bool (marks.contains ((l.drop i).take n)))∧w''=w')):=Lib.hid fun n w' hL'=>by
       rw [show s.extract i (i + n)=bs ((l.drop i).take n) by rw [HS.out,bs_extract,Nat.add_sub_cancel_left]]
       exact roneOf_any hL' _ _ marks (by decide) (by decide) (by simp; omega) (by decide)
      have HLA:=Lib.hid (HL.out.kept (HC0.out.then HC.out) (by simp))
      clear hN hlo hdi
      go_wp2_with fail
      rw [← HWA.out]
      go_loopw [7,9] (fun kv nv wx=>∃ k m:Nat,kv=num k∧nv=num m∧wx=wA∧((k=i∧m=2)∨(k=i∧m=1∧N=if marks.contains ((l.drop i).take 1)=true then 1 else 0)∨(k=i∧m=0∧N=0)∨(m=1∧k=i + 2∧N=2∧i + 2≤l.length)∨(m=0∧k=i + 1∧N=1))) (fun _ nv _=>(intOf nv).toNat)
      case atStart=>exact ⟨i,2,rfl,rfl,rfl,.inl ⟨rfl,rfl⟩⟩
      case' round=>
       obtain ⟨k,m,rfl,rfl,rfl,hst⟩:=hrel
       have HLR:=Lib.hid (HLA.out.kept (show Chg [] wL wr by rw [HWA.out]; exact (Chg.refl _ _).alloc _) (by simp))
       rcases hst with ⟨rfl,rfl⟩ | ⟨rfl,rfl,hN1⟩ | ⟨hk,rfl,hN0⟩ | ⟨rfl,hk,hN2,hl2⟩ | ⟨rfl,hk,hN1⟩
       case inl=>
        have HN1:Hid (¬ (k + 2≤l.length∧marks.contains ((l.drop k).take 2)=true)→N=if marks.contains ((l.drop k).take 1)=true then 1 else 0):=Lib.hid fun h=>by rw [HN.out,if_neg h]
        cases hle : decide (k + 2≤l.length)
        ·have hle1 : decide ((k:Int) + 2≤(l.length:Int))=false:=by have:=of_decide_eq_false hle; simp; omega
         have hN1:=HN1.out (fun h=>of_decide_eq_false hle h.1)
         have HN2:=Lib.hid hN1
         clear hN1
         go_wp2_with fail
         exact ⟨⟨k,1,rfl,by go_num,by first | rfl | trivial,.inr (.inl ⟨rfl,rfl,HN2.out⟩)⟩,by simp [intOf]⟩
        ·have hle0:=of_decide_eq_true hle
         have hle1 : decide ((k:Int) + 2≤(l.length:Int))=true:=by simp; omega
         go_wp2_with fail
         refine (HON.out 2 _ HLR.out).mono ?_; rintro _ w2 ⟨rfl,hw⟩
         have hw:=hw.symm; subst hw
         cases hm : marks.contains ((l.drop k).take 2)
         ·have HN2:=Lib.hid (HN1.out (fun h=>by rw [hm] at h; cases h.2))
          clear hm
          go_wp2_with fail
          exact ⟨⟨k,1,rfl,by go_num,by first | rfl | trivial,.inr (.inl ⟨rfl,rfl,HN2.out⟩)⟩,by simp [intOf]⟩
         ·have HN2:=Lib.hid (show N=2 by rw [HN.out,if_pos ⟨hle0,hm⟩])
          clear hm
          go_wp2_with fail
          exact ⟨⟨k + 2,1,by go_num,by go_num,by first | rfl | trivial,.inr (.inr (.inr (.inl ⟨rfl,rfl,HN2.out,hle0⟩)))⟩,by simp [intOf]⟩
       case inr.inl=>
        have hle1 : decide ((k:Int) + 1≤(l.length:Int))=true:=by simp; omega
        have HN1:=Lib.hid hN1
        clear hN1
        go_wp2_with fail
        refine (HON.out 1 _ HLR.out).mono ?_; rintro _ w2 ⟨rfl,hw⟩
        have hw:=hw.symm; subst hw
        cases hm : marks.contains ((l.drop k).take 1)
        ·have HN2:=Lib.hid (show N=0 by rw [HN1.out,hm,if_neg (by simp)])
         clear hm
         go_wp2_with fail
         exact ⟨⟨k,0,rfl,by go_num,by first | rfl | trivial,.inr (.inr (.inl ⟨rfl,rfl,HN2.out⟩))⟩,by simp [intOf]⟩
        ·have HN2:=Lib.hid (show N=1 by rw [HN1.out,hm,if_pos rfl])
         clear hm
         go_wp2_with fail
         exact ⟨⟨k + 1,0,by go_num,by go_num,by first | rfl | trivial,.inr (.inr (.inr (.inr ⟨rfl,rfl,HN2.out⟩)))⟩,by simp [intOf]⟩
       all_goals
        have hik : i≤k:=by omega
        have hkl : k≤l.length:=by omega
        have HNK:=Lib.hid (show nextK (c :: l.drop (i + 1))=(Kind.mark,k - i) by rw [HNM.out]; congr 1; omega)
        obtain ⟨kd,hkd⟩ : ∃ kd:Nat,kd=3:=⟨_,rfl⟩
        have HKD:=Lib.hid (show Kind.mark.num=kd from hkd.symm)
        have HBT2:=Lib.hid (show Blk wr wL.heap.size #[num kd,str [],num i] 82 by rw [HWA.out,hkd]; exact Blk.new wL _ _)
        have HC2:=Lib.hid (show Chg [] wL wr by rw [HWA.out]; exact (Chg.refl _ _).alloc _)
        obtain ⟨wE,rfl⟩ : ∃ x,x=wr:=⟨_,rfl⟩
        obtain ⟨KK,hKK⟩ : ∃ K,K=Kind.mark:=⟨_,rfl⟩
        rw [← hKK] at HNK HKD
        clear hKK hkd
    all_goals
     have hb0:=HB1.out.kept HC2.out (by simp)
     have q0:=hb0.cell 0 _ rfl; have q1:=hb0.cell 1 _ rfl; have r0:=hb0.frozen 0; have r1:=hb0.frozen 1
     have HB0E:=Lib.hid hb0
     have hk600 : acc.length≤600:=ha
     clear hb0
     cases h0 : decide (k=i)
     case' true=>
      first
       | (exfalso; have:=of_decide_eq_true h0; omega)
       | skip
      all_goals
       obtain rfl:=of_decide_eq_true h0
       have HRR:=Lib.hid (show lex l = .bad 3 k by rw [HR.out,HD.out,lexL_none HB.out (by rw [HNK.out]; simp)]; rfl)
       obtain ⟨wF,hwF⟩ : ∃ x,(wE.setCell ⟨w.heap.size,0,none⟩ (num 3)).setCell ⟨w.heap.size,1,none⟩ (num k)=x:=⟨_,rfl⟩
       have hbF:Blk wF w.heap.size #[num 3,num k] 34:=hwF ▸ (HB0E.out.set 0 (num 3)).set 1 (num k)
       have hcF:Chg [w.heap.size] wE wF:=hwF ▸ (Chg.set1 _ _ _ _).then (Chg.set1 _ _ _ _)
       have HCF:=Lib.hid (show Chg [] w wF from ((HC0.out.then HC.out).then HC2.out).trans hcF (fun x hx=>.inr (by simp at hx; omega)))
       have g0:=hbF.cell 0 _ rfl; have g1:=hbF.cell 1 _ rfl
       clear hbF hcF
       go_wp2_with fail
       refine bodyPost_ret (v:=.tuple #[nils,.agg #[num 3,num k]]) (by simp [results,Tryz.results37,go_sem,g0,g1]) rfl ?_
       rw [HRR.out]
       exact ⟨HCF.out,rfl⟩
     case' false=>
      first
       | (exfalso; have:=of_decide_eq_false h0; omega)
       | skip
      all_goals
       have hki : k≠i:=of_decide_eq_false h0
       try clear hk
       have e1 : ((k:Int) == (i:Int))=false:=by simp; omega
       have e2 : (k == i)=false:=by simp; omega
       have hn0 : k - i≠0:=by omega
       cases h6 : decide (600≤acc.length)
       case' true=>
        have ha6 : acc.length=600:=by have:=of_decide_eq_true h6; omega
        have HRR:=Lib.hid (show lex l = .bad 4 i by rw [HR.out,HD.out,ha6,lexL_many HB.out (by rw [HNK.out]; exact hn0)]; rfl)
        have h61 : decide ((600:Int)≤(acc.length:Int))=true:=by simp; omega
        clear ha6
        obtain ⟨wF,hwF⟩ : ∃ x,(wE.setCell ⟨w.heap.size,0,none⟩ (num 4)).setCell ⟨w.heap.size,1,none⟩ (num i)=x:=⟨_,rfl⟩
        have hbF:Blk wF w.heap.size #[num 4,num i] 34:=hwF ▸ (HB0E.out.set 0 (num 4)).set 1 (num i)
        have hcF:Chg [w.heap.size] wE wF:=hwF ▸ (Chg.set1 _ _ _ _).then (Chg.set1 _ _ _ _)
        have HCF:=Lib.hid (show Chg [] w wF from ((HC0.out.then HC.out).then HC2.out).trans hcF (fun x hx=>.inr (by simp at hx; omega)))
        have g0:=hbF.cell 0 _ rfl; have g1:=hbF.cell 1 _ rfl
        clear hbF hcF
        go_wp2_with fail
        refine bodyPost_ret (v:=.tuple #[nils,.agg #[num 4,num i]]) (by simp [results,Tryz.results37,go_sem,g0,g1]) rfl ?_
        rw [HRR.out]
        exact ⟨HCF.out,rfl⟩
       case' false=>
        have h6n:=of_decide_eq_false h6
        have h61 : decide ((600:Int)≤(acc.length:Int))=false:=by simp; omega
        have HTX:=Lib.hid (show lex l=(lexL f k (acc.length + 1) (l.drop k)).ahead (acc ++ [⟨KK,(l.drop i).take (k - i),i⟩]) by
         rw [HR.out,HD.out,lexL_tok HB.out (by rw [HNK.out]; exact hn0) (by omega),HNK.out,← HD.out,List.drop_drop,show i + (k - i)=k by omega])
        have HEX:=Lib.hid (show s.extract i k=bs ((l.drop i).take (k - i)) by rw [HS.out,bs_extract])
        have HDG:Hid (KK = .number → ∃ c' r,(l.drop i).take (k - i)=c' :: r∧c'.toNat≠43∧c'.toNat≠45):=Lib.hid fun e=>by rw [HD.out]; exact nextK_digs (by rw [HNK.out]; exact e) hn0
        obtain ⟨t0,t1,t2⟩:=HBT2.out.three
        have t1f:=HBT2.out.frozen 1
        obtain ⟨wB,hwB⟩ : ∃ x,wE.setCell ⟨wL.heap.size,1,none⟩ (.string (s.extract i k))=x:=⟨_,rfl⟩
        have hbB:Blk wB wL.heap.size #[num kd,.string (s.extract i k),num i] 82:=hwB ▸ HBT2.out.set 1 _
        have hcB:Chg [] wL wB:=HC2.out.trans (hwB ▸ Chg.set1 wE wL.heap.size 1 _:Chg [wL.heap.size] wE wB) (fun x hx=>.inr (by simp at hx; omega))
        obtain ⟨d0,d1,d2⟩:=hbB.three
        have HCB:=Lib.hid hcB
        have HO2:=Lib.hid (owns_kept HO.out (hcB.alloc (.cells #[num kd,.string (s.extract i k),num i] 82)) (by simp))
        clear hbB hcB
        go_wp2_with (at_builtin; go_must (refine wpL_append rfl _ _ 70 rfl 82 _ 3 32 infoRTok Tryz.underlying70 rfl (by decide) _ _ _ rfl HO2.out ⟨wB.heap.size,0,none⟩ 1 1 [num kd,.string (s.extract i k),num i] rfl rfl (cells_new _ _ _) (by simp [Value.oneCell']) ?_ ?_ ?_))
        ·omega
        ·unfold maxLen; omega
        ·intro v' w' hown' hch' hmv'
         have HO':=Lib.hid hown'
         have hszB:=HCB.out.size
         have HF':=Lib.hid (HF.out.moved hmv' (by simp; omega))
         have HC':=Lib.hid ((HC.out.then (HCB.out.alloc (.cells #[num kd,.string (s.extract i k),num i] 82))).trans hch' (fun x hx=>.inr (HF.out x hx)))
         clear hown' hch' hmv'
         go_wp2_with fail
         refine ⟨⟨f,k,acc ++ [⟨KK,(l.drop i).take (k - i),i⟩],rfl,hkl,by simpa using HTX.out,by omega,by simp; omega,⟨?_,?_⟩,?_,HF'.out,HC'.out⟩,by simp [intOf]; omega⟩
         ·intro t ht
          rcases List.mem_append.1 ht with h | h
          ·exact HSH.out.1 t h
          ·simp at h; rw [h]; simp; omega
         ·intro t ht hkt
          rcases List.mem_append.1 ht with h | h
          ·exact HSH.out.2 t h hkt
          ·simp at h; rw [h] at hkt ⊢; exact HDG.out hkt
         ·have:=HO'.out
          rw [HEX.out,← HKD.out] at this
          simpa [Tok.cells] using this
  ·have hdec : decide ((i:Int) < (s.size:Int))=false:=by simp; omega
   have HRR:=Lib.hid (show lex l = .ok acc by rw [HR.out,List.drop_eq_nil_of_le (by omega),lexL_nil]; simp [LexR.ahead])
   obtain ⟨wD,hwD⟩ : ∃ x,x=wr.drew:=⟨_,rfl⟩
   have hcD:Chg [] wr wD:=hwD ▸ (Chg.refl _ _).drew
   have HCD:=Lib.hid (HC.out.then hcD)
   have HLD:=Lib.hid (HL.out.kept (HC0.out.then (HC.out.then hcD)) (by simp))
   have HOD:=Lib.hid (owns_kept HO.out hcD (by simp))
   have hfb:=HLD.out.fineB
   have hfl : 0∉blk (.slice sa acc.length sc):=fun hm=>by have:=HF.out _ hm; have:=HL.out.laid.le; omega
   have z0:=HLD.out.fine0
   have Z1:=Lib.hid (Zone.of (X:=blk (.slice sa acc.length sc)) (w0:=wD) z0 hfl)
   have HFL:=Lib.hid hfl
   have hsD:=hcD.size
   clear hcD hfl z0
   go_wp2_with fail
   refine wp_region_T (blk (.slice sa acc.length sc)) rfl (by kernel_rfl) rfl ?_
   rw [← hwD]
   clear hwD
   have hS:Chg (blk (.slice sa acc.length sc)) wD wD:=Chg.refl _ _
   repeat ((with_reducible refine gX ?_); (first | refine wpX_nil ?_ | refine sK ?_ | refine sM fun _ _=>?_ | refine sL (hz:=by exact Z1.out) fun _ _=>?_ | refine sE fun _ _=>?_); go_wp2_with fail)
   refine And.intro (hS.alloc _) ?_
   have hS1:Chg (blk (.slice sa acc.length sc)) wD (wD.alloc (.cells #[num 4,str [],num l.length] 82)):=hS.alloc _
   repeat ((with_reducible refine gX ?_); (first | refine wpX_nil ?_ | refine sK ?_ | refine sM fun _ _=>?_ | refine sL (hz:=by exact Z1.out) fun _ _=>?_ | refine sE fun _ _=>?_); go_wp2_with fail)
   refine wpX_append _ _ 70 rfl rfl rfl 82 (.agg #[.int .i64 0,.string ⟨#[]⟩,.int .i64 0]) 3 32 infoRTok Tryz.underlying70 rfl (by decide) (.slice sa acc.length sc) acc.length (acc.flatMap Tok.cells) rfl (owns_kept HOD.out ((Chg.refl [] _).alloc _) (fun _ _ h=>by cases h)) ⟨wD.heap.size,0,none⟩ 1 1 [num 4,str [],num l.length] rfl rfl (cells_new _ _ _) (by simp [Value.oneCell']) (by omega) (by unfold maxLen; omega) ?_
   intro v4 w4 ho4 hc4 hm4
   have hS4:Chg (blk (.slice sa acc.length sc)) wD w4:=(hS.alloc _).then hc4
   have hb4:=(HB0.out.kept HCD.out (by simp)).kept hS4 (fun hm=>by have:=HF.out _ hm; omega)
   have y0:=hb4.cell 0 _ rfl; have y1:=hb4.cell 1 _ rfl; have x0:=hb4.frozen 0; have x1:=hb4.frozen 1
   have z0:=hS4.cellSome HLD.out.fine0 HFL.out; have z1:=hS4.cellSome HLD.out.fine1 HFL.out
   have hf4:From w0.heap.size v4:=HF.out.moved hm4 (by simp; omega)
   obtain ⟨wF,hwF⟩ : ∃ x,(w4.setCell ⟨w.heap.size,0,none⟩ (num 0)).setCell ⟨w.heap.size,1,none⟩ (num (-1))=x:=⟨_,rfl⟩
   have hbF:Blk wF w.heap.size #[num 0,num (-1)] 34:=hwF ▸ (hb4.set 0 (num 0)).set 1 (num (-1))
   have hcF:Chg [w.heap.size] w4 wF:=hwF ▸ (Chg.set1 _ _ _ _).then (Chg.set1 _ _ _ _)
   have HOF:=Lib.hid (owns_kept ho4 hcF (fun g hg hm=>by have:=hf4 g hg; simp at hm; omega))
   have HCF:=Lib.hid (show Chg [] w wF from ((HC0.out.then HCD.out).trans hS4 (fun x hx=>.inr (by have:=HF.out x hx; omega))).trans hcF (fun x hx=>.inr (by simp at hx; omega)))
   have HFF:=Lib.hid hf4
   have g0:=hbF.cell 0 _ rfl; have g1:=hbF.cell 1 _ rfl
   clear ho4 hc4 hm4 hb4 hbF hcF hf4
   refine And.intro hS4 ?_
   repeat ((with_reducible refine gX ?_); (first | refine wpX_nil ?_ | refine sK ?_ | refine sM fun _ _=>?_ | refine sL (hz:=by exact Z1.out) fun _ _=>?_ | refine sE fun _ _=>?_); go_wp2_with fail)
   refine stepX_ef rfl rfl (fun _ _=>?_)
   change Oper.wp _ (Oper.mk ..) ..
   go_wp2_with fail
   refine bodyPost_ret (v:=.tuple #[v4,.agg #[num 0,num (-1)]]) (by simp [results,Tryz.results37,go_sem,g0,g1]) rfl ?_
   rw [HRR.out]
   obtain ⟨a,k,rfl,hk,hrow⟩:=Row.of_owns HOF.out (new_owns (w:=w0) HOF.out HFF.out)
   refine ⟨HCF.out,a,k,rfl,hk,?_,ha,HSH.out.1,HSH.out.2⟩
   rw [toksCells_eq]
   exact hrow.mono fun x hx=>⟨by have:=hx.1; omega,hx.2⟩
end Go.Proofs.YtojkkgghndeimaaGreatDoor
