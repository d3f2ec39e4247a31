/- Some texts in one. -/
import Derived.Test.YtojkkgghndeimaaGreatDoorS1
import Derived.Test.YtojkkgghndeimaaGreatDoorS5
import Derived.Test.YtojkkgghndeimaaGreatDoorS6
import Derived.Test.YtojkkgghndeimaaGreatDoorS7
namespace Go.Proofs.YtojkkgghndeimaaGreatDoor
open Go Go.RowKit Go.Mq Go.Mq.Tree
set_option maxRecDepth 100000
set_option maxHeartbeats 2000000
def IntOf (t:List UInt8) (e:Ending):Prop:=match Lib.parseIntB 64 t with
 | .ok v=>e = .returned (.tuple #[.int .i64 v,.nilIface])
 | _=>∃ n T b,e = .returned (.tuple #[.int .i64 n,.iface T (.pointer (some ⟨b,0,none⟩))])
theorem parseInt_any (t:List UInt8) (w:World) (B:Nat) (hL:Laid w B) (ht : t.length≤1099511627776) :
  Calls Tryz.prog 195 #[str t,.int .i64 10,.int .i64 64] w (fun e w'=>Chg [] w w'∧IntOf t e):=by
 have hd : (bs t).data.toList=t:=rfl
 have hz : (bs t).size=t.length:=rfl
 unfold IntOf
 rcases hp:Lib.parseIntB 64 t with v | _ | _
 ·skip
  refine (Any.strconv_ParseInt_10_at64_ok Tryz.lays174 (bs t) (by omega) v (by rw [hd]; exact hp) w).mono ?_
  rintro e w' ⟨rfl,rfl | ⟨s,rfl⟩⟩
  ·exact ⟨Chg.refl _ _,rfl⟩
  ·exact ⟨Chg.of_below (Lib.bytesWorld_below _ _ _),rfl⟩
 ·skip
  obtain ⟨ev,h1,h2⟩:=hL.syn
  refine (Any.strconv_ParseInt_10_at64_syntax Tryz.lays174 (bs t) (by omega) (by rw [hd]; exact hp) ev w h1 h2).mono ?_
  rintro e w' ⟨N,rfl,_,_,hb⟩
  exact ⟨Chg.of_below hb,_,_,_,rfl⟩
 ·skip
  obtain ⟨ev,h1,h2⟩:=hL.range
  refine (Any.strconv_ParseInt_10_at64_range Tryz.lays174 (bs t) (by omega) (by rw [hd]; exact hp) ev w h1 h2).mono ?_
  rintro e w' ⟨N,rfl,_,_,hb⟩
  exact ⟨Chg.of_below hb,_,_,_,rfl⟩
theorem number_any (most:Int) (w:World) (B bp bt z:Nat) (ts:List Tok) (h:Par w B bp bt z ts) :
  Calls Tryz.prog 148 #[ptr bp,.int .i64 most] w (Ended w B bp bt z (number z most ts) (fun _ n v=>v = .int .i64 n)):=by
 have H:=Lib.hid h
 cases ts with
 | nil=>
  obtain ⟨off,c,c0,c1,c2,hl⟩:=par_nil h
  have c1' : w.cell? ⟨bt,off + 1,none⟩=some (str []):=by
   obtain ⟨off',c',hb',hl',hc'⟩:=h.at_
   have e:=(hb'.cell 0 _ rfl).symm.trans c0
   simp at e
   rw [← e.1]
   exact hc' 1 _ rfl
  clear h
  go_enter Tryz.func148,Tryz.ntmps148
  go_wp2_with fail
  have hc:=(Chg.refl [bp] w).alloc (.cells #[.int .i64 4,str [],.int .i64 z] 101)
  refine (fail_any 3 _ B bp bt z [] (H.out.kept ((Chg.refl [] w).alloc _) (by simp) (by simp) (by simp))).mono ?_; intro e w2 he
  have HE:=Lib.hid he
  obtain ⟨b,rfl⟩:=he.thrown
  have HC:=Lib.hid hc; clear hc he
  go_wp2_with fail
  exact ⟨rfl,HE.out.relay HC.out⟩
 | cons t r=>
  obtain ⟨off,c,hb,c0,c1,c2,c3,hl,hcs⟩:=par_cons h
  have hf:=hb.frozen 0
  have hP:=h.kept ((Chg.refl [] w).alloc (.cells #[.int .i64 t.kind.num,str t.text,.int .i64 t.pos] 101)) (by simp) (by simp) (by simp)
  have HP:=Lib.hid hP
  have hne:=h.ne
  have hbp : bp < w.heap.size:=hb.lt
  have HB:=Lib.hid (And.intro hb hl)
  have HI:=Lib.hid (parseInt_any t.text _ B hP.laid (h.short t (by simp)))
  have HS:=Lib.hid hcs
  clear hb hl hcs hP
  cases hkd : decide (t.kind = .number) with
  | false=>
   have hk : ((t.kind.num:Int) != 2)=true:=by cases hq : t.kind <;> simp_all [Kind.num]
   have HR:=Lib.hid (show number z most (t :: r) = .bad 3 t.pos by rw [number,if_pos (of_decide_eq_false hkd)])
   clear h hkd
   go_enter Tryz.func148,Tryz.ntmps148
   go_wp2_with fail
   refine (fail_any 3 _ B bp bt z (t :: r) HP.out).mono ?_; intro e w2 he
   have HE:=Lib.hid he
   obtain ⟨b,rfl⟩:=he.thrown
   clear he
   go_wp2_with fail
   refine ⟨rfl,?_⟩
   rw [HR.out]
   exact HE.out.relay ((Chg.refl _ _).alloc _)
  | true=>
   have hk : ((t.kind.num:Int) != 2)=false:=by cases hq : t.kind <;> simp_all [Kind.num]
   have HW:=Lib.hid (of_decide_eq_true hkd)
   clear h hkd
   rcases hpi:Lib.parseIntB 64 t.text with v | _ | _
   ·skip
    have HV:Hid (∀ e,IntOf t.text e→e = .returned (.tuple #[.int .i64 v,.nilIface])):=Lib.hid (fun e he=>by rw [IntOf,hpi] at he; exact he)
    cases hmost : decide (most < v) with
    | true=>
     have HR:=Lib.hid (show number z most (t :: r) = .bad 4 t.pos by rw [number,if_neg (by simp [HW.out]),hpi]; exact if_pos (of_decide_eq_true hmost))
     clear hpi
     go_enter Tryz.func148,Tryz.ntmps148
     go_wp2_with fail
     refine HI.out.mono ?_; intro e w1 he
     obtain rfl:=HV.out e he.2
     have HC:=Lib.hid he.1; clear he
     go_wp2_with fail
     refine (fail_any 4 _ B bp bt z (t :: r) (HP.out.kept HC.out (by simp) (by simp) (by simp))).mono ?_; intro e w2 he
     have HE:=Lib.hid he
     obtain ⟨b,rfl⟩:=he.thrown
     clear he
     go_wp2_with fail
     refine ⟨rfl,?_⟩
     rw [HR.out]
     exact HE.out.relay (((Chg.refl [bp] w).alloc _).then HC.out.weak)
    | false=>
     have HR:=Lib.hid (show number z most (t :: r) = .ok v r by rw [number,if_neg (by simp [HW.out]),hpi]; exact if_neg (of_decide_eq_false hmost))
     have hl:=HB.out.2
     clear hpi
     go_enter Tryz.func148,Tryz.ntmps148
     go_wp2_with fail
     refine HI.out.mono ?_; intro e w1 he
     obtain rfl:=HV.out e he.2
     obtain ⟨d0,d1,d2,hc0⟩:=tok_new he.1
     clear he
     have hb1:=HB.out.1.kept hc0 (by simp)
     have e0:=hb1.cell 0 _ rfl
     have ef:=hb1.frozen 0
     have hp1:=H.out.kept hc0 (by simp) (by simp) (by simp)
     have HT1:=Lib.hid (par_tail hp1 hb1 HB.out.2 (fun i v hi=>hc0.cellSome (HS.out i v hi) (by simp)))
     have HC0:=Lib.hid hc0; clear hc0 hp1 hb1
     go_wp2_with fail
     go_ret
     rw [HR.out]
     exact ⟨HC0.out.weak.then HT1.out.2,_,rfl,rfl,HT1.out.1⟩
   ·skip
    have HV:Hid (∀ e,IntOf t.text e → ∃ n T b,e = .returned (.tuple #[.int .i64 n,.iface T (.pointer (some ⟨b,0,none⟩))])):=Lib.hid (fun e he=>by rw [IntOf,hpi] at he; exact he)
    have HR:=Lib.hid (show number z most (t :: r) = .bad 4 t.pos by rw [number,if_neg (by simp [HW.out]),hpi])
    clear hpi
    go_enter Tryz.func148,Tryz.ntmps148
    go_wp2_with fail
    refine HI.out.mono ?_; intro e w1 he
    obtain ⟨nn,T,bb,rfl⟩:=HV.out e he.2
    have HC:=Lib.hid he.1; clear he
    go_wp2_with fail
    refine (fail_any 4 _ B bp bt z (t :: r) (HP.out.kept HC.out (by simp) (by simp) (by simp))).mono ?_; intro e w2 he
    have HE:=Lib.hid he
    obtain ⟨b,rfl⟩:=he.thrown
    clear he
    go_wp2_with fail
    refine ⟨rfl,?_⟩
    rw [HR.out]
    exact HE.out.relay (((Chg.refl [bp] w).alloc _).then HC.out.weak)
   ·skip
    have HV:Hid (∀ e,IntOf t.text e → ∃ n T b,e = .returned (.tuple #[.int .i64 n,.iface T (.pointer (some ⟨b,0,none⟩))])):=Lib.hid (fun e he=>by rw [IntOf,hpi] at he; exact he)
    have HR:=Lib.hid (show number z most (t :: r) = .bad 4 t.pos by rw [number,if_neg (by simp [HW.out]),hpi])
    clear hpi
    go_enter Tryz.func148,Tryz.ntmps148
    go_wp2_with fail
    refine HI.out.mono ?_; intro e w1 he
    obtain ⟨nn,T,bb,rfl⟩:=HV.out e he.2
    have HC:=Lib.hid he.1; clear he
    go_wp2_with fail
    refine (fail_any 4 _ B bp bt z (t :: r) (HP.out.kept HC.out (by simp) (by simp) (by simp))).mono ?_; intro e w2 he
    have HE:=Lib.hid he
    obtain ⟨b,rfl⟩:=he.thrown
    clear he
    go_wp2_with fail
    refine ⟨rfl,?_⟩
    rw [HR.out]
    exact HE.out.relay (((Chg.refl [bp] w).alloc _).then HC.out.weak)
end Go.Proofs.YtojkkgghndeimaaGreatDoor
namespace Go.Mq.Tree
open Go Go.RowKit Go.Mq
theorem name_len {z:Nat} {ts r:List Tok} {n:List UInt8} (h : name z ts = .ok n r) : r.length + 1=ts.length:=by
 cases ts with
 | nil=>cases h
 | cons t l=>
  rw [name] at h
  split at h
  ·cases h
  ·split at h
   ·cases h
   ·cases h; rfl
theorem see_tail {s:List UInt8} {ts:List Tok} (h : see s ts=true) : ts.tail.length + 1=ts.length:=by
 cases ts with
 | nil=>cases h
 | cons t r=>rfl
theorem skip_le (s:List UInt8) (ts:List Tok) : (skip s ts).length≤ts.length:=by
 unfold skip; split <;> simp
theorem Par.bp_lt {w:World} {B bp bt z:Nat} {ts:List Tok} (h:Par w B bp bt z ts) : bp < w.heap.size:=by
 obtain ⟨off,c,hb,_⟩:=h.at_
 exact hb.lt
theorem Par.bt_lt {w:World} {B bp bt z:Nat} {ts:List Tok} (h:Par w B bp bt z ts) : bt < w.heap.size:=by
 obtain ⟨off,c,_,_,hc⟩:=h.at_
 cases ts with
 | nil=>exact lt_of_cell (hc 0 _ rfl)
 | cons t r=>exact lt_of_cell (hc 0 _ rfl)
theorem grow_step {w wr w2 w':World} {B bp bt z:Nat} {r:List Tok} {v v':Value} {o:Obj} (hB:B≤w.heap.size) (hbp : bp < w.heap.size) (hbt : bt < w.heap.size)
  (hC:Chg [bp] w wr) (hN:Chg [bp] wr w2) (hP:Par w2 B bp bt z r) (hF:From w.heap.size v) (hch:Chg (blk v) (w2.alloc o) w') (hm:Moved (w2.alloc o) v v') :
  Par w' B bp bt z r∧Chg [bp] w w'∧From w.heap.size v':=by
 have hs:=(hC.then hN).size
 refine ⟨(hP.kept ((Chg.refl [] w2).alloc o) (by simp) (by simp) (by simp)).kept hch (fun x hx=>Nat.le_trans hB (hF x hx)) (fun hm=>by have:=hF _ hm; omega) (fun hm=>by have:=hF _ hm; omega),?_,hF.moved hm (by simp; omega)⟩
 exact ((hC.then hN).alloc o).trans hch (fun x hx=>.inr (hF x hx))
def lenOf:Value→Nat
 | .slice _ n _=>n
 | _=>0
theorem lenOf_owns {w:World} {e:TypeId} {size n:Nat} {v:Value} {xs:List Value} (h : w.ownsRow 0 e size v n xs) : lenOf v=n:=by
 rcases h.2 with ⟨rfl,rfl⟩ | ⟨g,cap,cur,rfl,_⟩ <;> rfl
theorem slice_of_owns {w:World} {e:TypeId} {size n:Nat} {v:Value} {xs:List Value} (h : w.ownsRow 0 e size v n xs) : ∃ a c,v = .slice a n c:=by
 rcases h.2 with ⟨rfl,rfl⟩ | ⟨g,cap,cur,rfl,_⟩
 ·exact ⟨_,_,rfl⟩
 ·exact ⟨_,_,rfl⟩
theorem new_owns {w w':World} {e:TypeId} {size n:Nat} {v:Value} {xs:List Value} (h : w'.ownsRow 0 e size v n xs) (hF:From w.heap.size v) : ∀ g∈blk v,New w w' g:=fun g hg=>⟨hF g hg,owns_lt h g hg⟩
end Go.Mq.Tree
namespace Go.Proofs.YtojkkgghndeimaaGreatDoor
open Go Go.RowKit Go.Mq Go.Mq.Tree
set_option maxRecDepth 100000
set_option maxHeartbeats 4000000
theorem infoStr : (Tryz.prog.info? 9).map (fun i=>(i.zero,i.size,i.bytes))=some (some (.string ⟨#[]⟩),1,16):=by kernel_rfl
theorem names_any (most:Nat) (_hmost : most≤1000) (w:World) (B bp bt z:Nat) (ts:List Tok) (h:Par w B bp bt z ts) :
  Calls Tryz.prog 102 #[ptr bp,.int .i64 most] w (Ended w B bp bt z (names z most ts) (fun w' l v=>NamesAt w' (New w w') l v)):=by
 have H:=Lib.hid h
 have hB:=h.laid.le
 have hbp:=h.bp_lt
 have hbt:=h.bt_lt
 clear h
 go_enter Tryz.func102,Tryz.ntmps102
 go_wp2_with fail
 go_loopw [5,6] (fun l m wr=>∃ (f:Nat) (b:Bool) (acc:List (List UInt8)) (ts':List Tok),m = .bool b∧names z most ts=(if b then namesL z most f acc ts' else .ok acc ts')∧(b=true→f + acc.length=most + 1)∧acc.length≤most∧acc.length + ts'.length≤600 ∧
   Par wr B bp bt z ts'∧wr.ownsRow 0 9 1 l acc.length (acc.map str)∧From w.heap.size l∧Chg [bp] w wr) (fun l _ _=>most + 1 - lenOf l)
 case atStart=>exact ⟨most + 1,true,[],ts,rfl,rfl,fun _=>rfl,Nat.zero_le _,by simpa using H.out.few,H.out,World.ownsRow_nil _ _ _ _,From.nil _,Chg.refl _ _⟩
 case round=>
  obtain ⟨f,b,acc,ts',rfl,hr,hf,ha,hlen,hp,ho,hF,hC⟩:=hrel
  have HR:=Lib.hid hr; have HP:=Lib.hid hp; have HO:=Lib.hid ho; have HF:=Lib.hid hF; have HC:=Lib.hid hC
  obtain ⟨sa,sc,hs⟩:=slice_of_owns ho
  clear hr hp ho hF hC
  cases b with
  | false=>
   clear hf
   go_wp2_with fail
   go_ret
   rw [HR.out]
   refine ⟨HC.out,_,rfl,?_,HP.out⟩
   obtain ⟨a,c,rfl,hac,hrow⟩:=Row.of_owns (HO.out) (new_owns HO.out HF.out)
   exact ⟨a,c,by simp,by simpa using hac,hrow⟩
  | true=>
   have hf:=hf rfl
   subst hs
   obtain ⟨f,rfl⟩ : ∃ f',f=f' + 1:=⟨f - 1,by omega⟩
   cases he : decide (acc.length=most) with
   | true=>
    have he1 : ((acc.length:Int) == (most:Int))=true:=by have:=of_decide_eq_true he; simp [this]
    have HRR:=Lib.hid (show names z most ts = .bad 4 (hd z ts') by rw [HR.out,if_pos rfl,namesL,if_pos (of_decide_eq_true he)])
    clear he
    go_wp2_with fail
    refine (fail_any 4 _ B bp bt z ts' HP.out).mono ?_; intro e w2 he
    have HE:=Lib.hid he
    obtain ⟨b,rfl⟩:=he.thrown
    clear he
    go_wp2_with fail
    refine ⟨rfl,?_⟩
    rw [HRR.out]
    exact HE.out.relay HC.out
   | false=>
    have he1 : ((acc.length:Int) == (most:Int))=false:=by have:=of_decide_eq_false he; simp; omega
    have hne:=of_decide_eq_false he
    have HN:=Lib.hid (name_any _ B bp bt z ts' HP.out)
    clear he
    cases hn : name z ts' with
    | bad en p=>
     have HRR:=Lib.hid (show names z most ts = .bad en p by rw [HR.out,if_pos rfl,namesL,if_neg hne,hn])
     rw [hn] at HN
     clear hn hne
     go_wp2_with fail
     refine HN.out.mono ?_; intro e w2 he
     have HE:=Lib.hid he
     obtain ⟨b,rfl⟩:=he.thrown
     clear he
     go_wp2_with fail
     refine ⟨rfl,?_⟩
     rw [HRR.out]
     exact HE.out.relay HC.out
    | ok n r=>
     have hnl:=name_len hn
     have ha1 : acc.length + 1≤most:=by omega
     have HRR:=Lib.hid (show names z most ts=if see [44] r then namesL z most f (acc ++ [n]) r.tail else .ok (acc ++ [n]) r by rw [HR.out,if_pos rfl,namesL,if_neg hne,hn])
     rw [hn] at HN
     clear hn hne
     go_wp2_with fail
     refine HN.out.mono ?_; rintro e w2 ⟨hc2,_,rfl,rfl,hp2⟩
     have HC2:=Lib.hid hc2; have HP2:=Lib.hid hp2
     have ho2:=owns_kept HO.out ((hc2.alloc (.cells #[str n] 9))) (fun g hg hm=>by have:=HF.out g hg; simp at hm; omega)
     have HO2:=Lib.hid ho2
     clear hc2 hp2 ho2
     go_wp2_with (at_builtin; go_must (refine wpL_append rfl _ _ 25 rfl 9 _ 1 16 infoStr Tryz.underlying25 rfl (by decide) _ _ _ rfl HO2.out ⟨w2.heap.size,0,none⟩ 1 1 [_] rfl rfl (cell_new1 _ _ _) (by simp [Value.oneCell']) ?_ ?_ ?_))
     ·omega
     ·unfold maxLen; omega
     ·intro v' w' hown' hch' hmv'
      have HO':=Lib.hid hown'; clear hown'
      obtain ⟨hp3,hc3,hf3⟩:=grow_step hB hbp hbt HC.out HC2.out HP2.out HF.out hch' hmv'
      have HP3:=Lib.hid hp3; have HC3:=Lib.hid hc3; have HF3:=Lib.hid hf3
      clear hch' hmv' hp3 hc3 hf3
      go_wp2_with fail
      refine (take_any [44] _ B bp bt z r HP3.out).mono ?_; rintro e w4 ⟨rfl,hp4,hc4,_⟩
      have HP4:=Lib.hid hp4; have HC4:=Lib.hid hc4
      clear hp4 hc4
      go_wp2_with fail
      have ho4:=owns_kept HO'.out HC4.out (fun g hg hm=>by have:=HF3.out g hg; simp at hm; omega)
      have hl4 : lenOf v'=acc.length + 1:=lenOf_owns HO'.out
      have hsk : (skip [44] r).length≤r.length:=skip_le _ _
      refine ⟨⟨f,see [44] r,acc ++ [n],skip [44] r,rfl,?_,fun _=>by simp; omega,by simp; omega,by simp; omega,HP4.out,by simpa using ho4,HF3.out,HC3.out.then HC4.out⟩,?_⟩
      ·rw [HRR.out]; unfold skip; split <;> rfl
      ·rw [hl4]; simp only [lenOf]; omega
end Go.Proofs.YtojkkgghndeimaaGreatDoor
namespace Go.Mq.Tree
open Go Go.RowKit Go.Mq
def wordy (c:UInt8):Bool:=letter c || digit c
def kindT:List UInt8→Kind
 | []=>.mark
 | c :: _=>if letter c then .word else if digit c then .number else .mark
def IsWord (t:List UInt8):Prop:=∃ c r,t=c :: r∧letter c=true ∧ ∀ x∈r,wordy x=true
def IsNum (t:List UInt8):Prop:=∃ c r,t=c :: r∧digit c=true ∧ ∀ x∈r,digit x=true
def IsTok (t:List UInt8):Prop:=IsWord t∨IsNum t∨t∈marks
def Ends (t:List UInt8):List UInt8→Prop
 | []=>True
 | b :: _=>(kindT t ≠ .mark→wordy b=false)∧(b.toNat=61→t≠[58]∧t≠[60]∧t≠[62])
inductive Toks:List UInt8→List (List UInt8)→Prop
 | nil:Toks [] []
 | gap {c u K} : gap c=true→Toks u K→Toks (c :: u) K
 | tok {t u K} : IsTok t→Ends t u→Toks u K→Toks (t ++ u) (t :: K)
inductive Spread:List UInt8→List UInt8→Prop
 | nil:Spread [] []
 | byte {c u v} : gap c=false→Spread u v→Spread (c :: u) (c :: v)
 | gap {c g u v} : gap c=true→g≠[]→(∀ x∈g,gap x=true)→Spread u v→Spread (c :: u) (g ++ v)
theorem Spread.refl : ∀ u,Spread u u
 | []=>.nil
 | c :: u=>by
  cases h:Tree.gap c with
  | false=>exact .byte h (Spread.refl u)
  | true=>exact Spread.gap (g:=[c]) h (by simp) (by simpa using h) (Spread.refl u)
theorem letter_val {c:UInt8} (h : letter c=true) : 97≤c.toNat∧c.toNat≤122:=by simpa [letter] using h
theorem digit_val {c:UInt8} (h : digit c=true) : 48≤c.toNat∧c.toNat≤57:=by simpa [digit] using h
theorem tok_ne {t:List UInt8} (h:IsTok t) : t≠[]:=by
 rcases h with ⟨c,r,rfl,_,_⟩ | ⟨c,r,rfl,_,_⟩ | h
 ·simp
 ·simp
 ·revert h; revert t; decide
theorem letter_not_digit {c:UInt8} (h : digit c=true) : letter c=false:=by
 cases hl : letter c with
 | false=>rfl
 | true=>have:=letter_val hl; have:=digit_val h; omega
theorem kind_word {t:List UInt8} (h:IsWord t) : kindT t = .word:=by
 obtain ⟨c,r,rfl,hc,_⟩:=h; simp [kindT,hc]
theorem kind_num {t:List UInt8} (h:IsNum t) : kindT t = .number:=by
 obtain ⟨c,r,rfl,hc,_⟩:=h; simp [kindT,hc,letter_not_digit hc]
theorem kind_mark : ∀ t∈marks,kindT t = .mark:=by decide
theorem howN_take {f:UInt8→Bool} : ∀ (l:List UInt8),(∀ x∈l.take (howN f l),f x=true)∧howN f l≤l.length
 | []=>by simp [howN]
 | c :: t=>by
  have h:=howN_take (f:=f) t
  cases hc : f c with
  | false=>simp [howN,hc]
  | true=>
   simp only [howN,hc,if_true,List.take_succ_cons,List.length_cons]
   exact ⟨fun x hx=>(List.mem_cons.mp hx).elim (fun e=>e ▸ hc) (h.1 x),by omega⟩
theorem next_istok {l:List UInt8} (h : (nextK l).2≠0):IsTok (l.take (nextK l).2)∧kindT (l.take (nextK l).2)=(nextK l).1∧(nextK l).2≤l.length:=by
 cases l with
 | nil=>simp [nextK] at h
 | cons c t=>
  rw [nextK] at h ⊢
  by_cases hl : letter c=true
  ·rw [if_pos hl] at h ⊢
   have hh:=howN_take (f:=fun c=>letter c || digit c) (c :: t)
   have he : howN (fun c=>letter c || digit c) (c :: t)=howN (fun c=>letter c || digit c) t + 1:=by simp [howN,hl]
   simp only [he,List.take_succ_cons] at hh ⊢
   have hw:IsWord (c :: t.take (howN (fun c=>letter c || digit c) t)):=⟨c,_,rfl,hl,fun x hx=>by simpa [wordy] using hh.1 x (by simp [hx])⟩
   exact ⟨.inl hw,kind_word hw,hh.2⟩
  ·rw [if_neg hl] at h ⊢
   by_cases hd : digit c=true
   ·rw [if_pos hd] at h ⊢
    have hh:=howN_take (f:=digit) (c :: t)
    have he : howN digit (c :: t)=howN digit t + 1:=by simp [howN,hd]
    simp only [he,List.take_succ_cons] at hh ⊢
    have hw:IsNum (c :: t.take (howN digit t)):=⟨c,_,rfl,hd,fun x hx=>hh.1 x (by simp [hx])⟩
    exact ⟨.inr (.inl hw),kind_num hw,hh.2⟩
   ·rw [if_neg hd] at h ⊢
    cases hf : marks.find? fun m=>m.isPrefixOf (c :: t) with
    | none=>simp [hf] at h
    | some m=>
     have h1:=List.mem_of_find?_eq_some hf
     have h2:=List.find?_some hf
     obtain ⟨v,hv⟩:=List.isPrefixOf_iff_prefix.mp h2
     simp only [Option.map_some,Option.getD_some]
     rw [← hv]
     simp only [List.take_left,List.length_append]
     exact ⟨.inr (.inr h1),kind_mark m h1,by omega⟩
def bytes (ts:List Tok):Nat:=(ts.map fun t=>t.text.length).sum
def Good (ts:List Tok):Prop:=∀ t∈ts,IsTok t.text∧t.kind=kindT t.text
theorem lexL_good : ∀ (f i k:Nat) (l:List UInt8) (ts:List Tok),lexL f i k l = .ok ts→Good ts∧bytes ts≤l.length
 | 0,_,_,l,ts,h=>by cases h; exact ⟨fun _ h=>by simp at h,by simp [bytes]⟩
 | f + 1,i,k,[],ts,h=>by cases h; exact ⟨fun _ h=>by simp at h,by simp [bytes]⟩
 | f + 1,i,k,c :: t,ts,h=>by
  rw [lexL] at h
  split at h
  ·have:=lexL_good f _ _ _ _ h
   exact ⟨this.1,by simp only [List.length_cons]; omega⟩
  ·split at h
   ·cases h
   ·rename_i hn
    split at h
    ·cases h
    ·split at h
     ·rename_i ts' hts
      cases h
      have h1:=lexL_good f _ _ _ _ hts
      have h2:=next_istok hn
      refine ⟨?_,?_⟩
      ·intro x hx
       rcases List.mem_cons.mp hx with rfl | hx
       ·exact ⟨h2.1,h2.2.1.symm⟩
       ·exact h1.1 x hx
      ·have h3:=h1.2
       have h4 : ((c :: t).take (nextK (c :: t)).2).length=(nextK (c :: t)).2:=by rw [List.length_take]; exact Nat.min_eq_left h2.2.2
       rw [List.length_drop] at h3
       simp only [bytes,List.map_cons,List.sum_cons,h4] at h3 ⊢
       have:=h2.2.2
       omega
     ·cases h
end Go.Mq.Tree
namespace Go.Mq.Tree
open Go Go.RowKit Go.Mq
def Nm (n:List UInt8):Prop:=IsWord n∧kept n=false∧n.length≤10
def Qm (m:List UInt8):Prop:=m=[]∨Nm m
def E.isX:E→Prop
 | .nil=>False
 | .cons _ _=>False
 | _=>True
def E.isL:E→Prop
 | .nil=>True
 | .cons _ _=>True
 | _=>False
def WF:E→Prop
 | .num _ n=>0≤n∧n≤9223372036854775807
 | .var _ m n=>Qm m∧Nm n
 | .item _ m n i=>Qm m∧Nm n∧WF i∧i.isX
 | .un _ op x=>(op=[45]∨op=[110,111,116])∧WF x∧x.isX
 | .bin _ op x y=>(∃ k,k < 5∧op∈levels.getD (4 - k) [])∧(WF x∧x.isX)∧WF y∧y.isX
 | .app _ m n l=>Qm m∧Nm n∧WF l∧l.isL
 | .nil=>True
 | .cons x r=>(WF x∧x.isX)∧WF r∧r.isL
def needW (lv:Nat) (x:E) (k:Nat):Nat:=if lv≤lvl x then k else k + 1
def need:E→Nat
 | .num _ _=>1
 | .var _ _ _=>1
 | .item _ _ _ i=>need i + 1
 | .un _ _ x=>needW 5 x (need x) + 1
 | .bin _ op x y=>max (needW (opLevel op) x (need x)) (needW (opLevel op + 1) y (need y))
 | .app _ _ _ l=>need l + 1
 | .nil=>0
 | .cons x r=>max (need x) (need r)
def withinK (lv:Nat) (x:E) (K:List (List UInt8)):List (List UInt8):=if lv≤lvl x then K else [40] :: (K ++ [[41]])
def qualK (m n:List UInt8):List (List UInt8):=if m=[] then [n] else [m,[46],n]
def toks:E→List (List UInt8)
 | .num _ n=>[Lib.itoa n]
 | .var _ m n=>qualK m n
 | .item _ m n i=>qualK m n ++ [91] :: (toks i ++ [[93]])
 | .un _ op x=>op :: withinK 5 x (toks x)
 | .bin _ op x y=>withinK (opLevel op) x (toks x) ++ op :: withinK (opLevel op + 1) y (toks y)
 | .app _ m n l=>qualK m n ++ [40] :: (toks l ++ [[41]])
 | .nil=>[]
 | .cons x .nil=>toks x
 | .cons x r=>toks x ++ [44] :: toks r
def E.cost:E→Nat
 | .cons x r=>(toks x).length + 1 + r.cost
 | _=>0
def Sp {α:Type} (p:Ps α) (Q : α→Prop) (c : α→Nat):Prop:=∀ ts a r,Good ts→p ts = .ok a r→Q a∧c a + bytes r≤bytes ts∧Good r
theorem bytes_cons (t:Tok) (r:List Tok) : bytes (t :: r)=t.text.length + bytes r:=by simp [bytes]
theorem good_cons {t:Tok} {r:List Tok} (h:Good (t :: r)) : (IsTok t.text∧t.kind=kindT t.text)∧Good r:=⟨h t (by simp),fun x hx=>h x (by simp [hx])⟩
theorem len_pos {t:List UInt8} (h:IsTok t) : 1≤t.length:=by
 cases t with
 | nil=>exact absurd rfl (tok_ne h)
 | cons _ _=>simp
theorem see_cost {s:List UInt8} {ts:List Tok} (hg:Good ts) (h : see s ts=true) : s.length + bytes ts.tail=bytes ts∧Good ts.tail:=by
 cases ts with
 | nil=>simp [see] at h
 | cons t r=>
  have : t.text=s:=by simpa [see] using h
  exact ⟨by rw [bytes_cons,this]; rfl,(good_cons hg).2⟩
theorem must_sp {z:Nat} {s:List UInt8} {ts:List Tok} {u:Unit} {r:List Tok} (hg:Good ts) (h : must z s ts = .ok u r) : s.length + bytes r=bytes ts∧Good r:=by
 rw [must] at h
 split at h
 ·rename_i hs; cases h; exact see_cost hg hs
 ·cases h
theorem name_sp {z:Nat} : Sp (name z) Nm (fun _=>1):=by
 intro ts n r hg h
 cases ts with
 | nil=>cases h
 | cons t ts=>
  rw [name] at h
  split at h
  ·cases h
  ·rename_i h1
   split at h
   ·cases h
   ·rename_i h2
    cases h
    have hg:=good_cons hg
    have hk : kindT t.text = .word:=by rw [← hg.1.2]; exact Classical.not_not.mp fun h=>h1 (.inl h)
    refine ⟨⟨?_,by simpa using fun h=>h1 (.inr h),by omega⟩,by show 1 + _≤_; rw [bytes_cons]; have:=len_pos hg.1.1; omega,hg.2⟩
    rcases hg.1.1 with h | h | h
    ·exact h
    ·rw [kind_num h] at hk; cases hk
    ·rw [kind_mark _ h] at hk; cases hk
theorem number_sp {z:Nat} {most:Int} : Sp (number z most) (fun n=>0≤n∧n≤most) (fun _=>1):=by
 intro ts n r hg h
 cases ts with
 | nil=>cases h
 | cons t ts=>
  rw [number] at h
  split at h
  ·cases h
  ·rename_i h1
   have hg:=good_cons hg
   have hk : kindT t.text = .number:=by rw [← hg.1.2]; exact Classical.not_not.mp h1
   have hn:IsNum t.text:=by
    rcases hg.1.1 with h | h | h
    ·rw [kind_word h] at hk; cases hk
    ·exact h
    ·rw [kind_mark _ h] at hk; cases hk
   split at h
   ·rename_i n' hp
    split at h
    ·cases h
    ·rename_i h2
     cases h
     refine ⟨⟨?_,by omega⟩,by show 1 + _≤_; rw [bytes_cons]; have:=len_pos hg.1.1; omega,hg.2⟩
     obtain ⟨c,r,hc,hd,_⟩:=hn
     rw [hc] at hp
     have hd:=digit_val hd
     have e : (c.toNat=45)=False:=by simp; omega
     unfold Lib.parseIntB at hp
     simp only [e,not_false_eq_true,true_and,false_and,if_false] at hp
     split at hp
     ·cases hp
     ·cases hp
     ·split at hp
      ·cases hp
      ·injection hp with hp; omega
   ·cases h
theorem namesL_sp {z most:Nat} : ∀ (f:Nat) (l:List (List UInt8)) (ts:List Tok) (l':List (List UInt8)) (r:List Tok),Good ts→(∀ n∈l,Nm n)→l.length≤most→namesL z most f l ts = .ok l' r →
  (∀ n∈l',Nm n)∧l'.length≤most∧l.length < l'.length∧2 * l'.length + bytes r≤2 * l.length + bytes ts + 1∧Good r
 | 0,_,_,_,_,_,_,_,h=>by cases h
 | f + 1,l,ts,l',r,hg,hl,hm,h=>by
  rw [namesL] at h
  split at h
  ·cases h
  ·cases hn : name z ts with
   | bad e p=>simp only [hn] at h; cases h
   | ok n r1=>
    obtain ⟨h1,h2,h3⟩:=name_sp _ _ _ hg hn
    replace h2 : 1 + bytes r1≤bytes ts:=h2
    have hl2 : ∀ x∈l ++ [n],Nm x:=by
     intro x hx
     rcases List.mem_append.mp hx with hx | hx
     ·exact hl x hx
     ·simp at hx; subst hx; exact h1
    simp only [hn] at h
    split at h
    ·rename_i hs
     have hc:=see_cost h3 hs
     have hr:=namesL_sp f _ _ _ _ hc.2 hl2 (by simp; omega) h
     simp only [List.length_append,List.length_cons,List.length_nil] at hr hc
     exact ⟨hr.1,hr.2.1,by omega,by omega,hr.2.2.2.2⟩
    ·cases h
     exact ⟨hl2,by simp; omega,by simp,by simp; omega,h3⟩
theorem names_sp {z most:Nat} {ts:List Tok} {l:List (List UInt8)} {r:List Tok} (hg:Good ts) (h : names z most ts = .ok l r) : (∀ n∈l,Nm n)∧l.length≤most∧l≠[]∧2 * l.length + bytes r≤bytes ts + 1∧Good r:=by
 have:=namesL_sp _ _ _ _ _ hg (by simp) (by simp) h
 simp only [List.length_nil] at this
 exact ⟨this.1,this.2.1,fun h=>by rw [h] at this; simp at this,by omega,this.2.2.2.2⟩
theorem qual_sp {z:Nat} : Sp (qual z) (fun q=>Qm q.1∧Nm q.2) (fun q=>(qualK q.1 q.2).length):=by
 intro ts q r hg h
 rw [qual] at h
 cases h1 : name z ts with
 | bad e p=>simp only [h1] at h; cases h
 | ok n r1=>
  obtain ⟨a1,a2,a3⟩:=name_sp _ _ _ hg h1
  replace a2 : 1 + bytes r1≤bytes ts:=a2
  simp only [h1] at h
  split at h
  ·rename_i hs
   have hc:=see_cost a3 hs
   cases h2 : name z r1.tail with
   | bad e p=>simp only [h2] at h; cases h
   | ok n2 r2=>
    obtain ⟨b1,b2,b3⟩:=name_sp _ _ _ hc.2 h2
    replace b2 : 1 + bytes r2≤bytes r1.tail:=b2
    simp only [h2] at h
    cases h
    refine ⟨⟨.inr a1,b1⟩,?_,b3⟩
    have : (qualK n n2).length≤3:=by rw [qualK]; split <;> simp
    simp only [List.length_cons,List.length_nil] at hc
    simp only
    omega
  ·cases h
   exact ⟨⟨.inl rfl,a1⟩,by simp [qualK]; omega,a3⟩
theorem op_level : ∀ k < 5,∀ op∈levels.getD (4 - k) [],opLevel op=4 - k:=by decide
theorem within_len (lv:Nat) (x:E) (K:List (List UInt8)) : (withinK lv x K).length≤K.length + 2:=by rw [withinK]; split <;> simp
theorem within_mono {a b:Nat} (h : a≤b) (x:E) (K:List (List UInt8)) : (withinK a x K).length≤(withinK b x K).length:=by
 rw [withinK,withinK]; split <;> split <;> simp <;> omega
theorem needW_mono {a b:Nat} (h : a≤b) (x:E) (k:Nat) : needW a x k≤needW b x k:=by
 rw [needW,needW]; split <;> split <;> omega
def Fits (d lv:Nat) (x:E):Prop:=(WF x∧x.isX)∧needW lv x (need x)≤d
def costW (lv:Nat) (x:E):Nat:=(withinK lv x (toks x)).length
theorem op_cost {lv:List (List UInt8)} {ts:List Tok} {m:List UInt8} (hg:Good ts) (h : opOf lv ts=some m) : m∈lv∧1 + bytes ts.tail≤bytes ts∧Good ts.tail:=by
 have h1:=List.mem_of_find?_eq_some h
 have h2:=List.find?_some h
 have h3:=see_cost hg h2
 refine ⟨h1,?_,h3.2⟩
 cases ts with
 | nil=>simp [see] at h2
 | cons t r=>rw [bytes_cons]; have:=len_pos (good_cons hg).1.1; simp; omega
theorem binL_sp {sub:Ps E} {k d:Nat} (p:Nat) (hk : k < 5) (hs:Sp sub (Fits d (5 - k)) (costW (5 - k))) : ∀ (f:Nat) (x:E) (ts:List Tok) (a:E) (r:List Tok),Good ts→Fits d (4 - k) x→binL sub (levels.getD (4 - k) []) p f x ts = .ok a r →
  Fits d (4 - k) a∧costW (4 - k) a + bytes r≤costW (4 - k) x + bytes ts∧Good r
 | 0,_,_,_,_,_,_,h=>by cases h
 | f + 1,x,ts,a,r,hg,hx,h=>by
  rw [binL] at h
  split at h
  ·cases h; exact ⟨hx,Nat.le_refl _,hg⟩
  ·rename_i m hm
   obtain ⟨o1,o2,o3⟩:=op_cost hg hm
   cases hy : sub ts.tail with
   | bad e q=>simp only [hy] at h; cases h
   | ok y r1=>
    obtain ⟨y1,y2,y3⟩:=hs _ _ _ o3 hy
    simp only [hy] at h
    have hlv:=op_level k hk m o1
    have e5 : 5 - k=4 - k + 1:=by omega
    rw [e5] at y1 y2
    have hb:Fits d (4 - k) (.bin p m x y):=by
     refine ⟨⟨⟨⟨k,hk,o1⟩,hx.1,y1.1⟩,trivial⟩,?_⟩
     have h1:=hx.2; have h2:=y1.2
     rw [needW,if_pos (by rw [lvl,hlv]; exact Nat.le_refl _),need,hlv]
     omega
    obtain ⟨b1,b2,b3⟩:=binL_sp p hk hs f _ _ _ _ y3 hb h
    have hc : costW (4 - k) (.bin p m x y)=costW (4 - k) x + 1 + costW (4 - k + 1) y:=by
     rw [costW,withinK,if_pos (by rw [lvl,hlv]; exact Nat.le_refl _),toks,hlv,List.length_append,List.length_cons,costW,costW]; omega
    exact ⟨b1,by omega,b3⟩
theorem expr_sp {z d:Nat} {base:Ps E} (hb:Sp base (Fits d 5) (costW 5)) : ∀ (k:Nat),k≤5→Sp (expr z base k) (Fits d (5 - k)) (costW (5 - k))
 | 0,_=>hb
 | k + 1,hk=>by
  intro ts a r hg h
  have ih:=expr_sp (z:=z) hb k (by omega)
  rw [expr] at h
  cases hx : expr z base k ts with
  | bad e q=>simp only [hx] at h; cases h
  | ok x r1=>
   obtain ⟨x1,x2,x3⟩:=ih _ _ _ hg hx
   simp only [hx] at h
   have e4 : 5 - (k + 1)=4 - k:=by omega
   rw [e4]
   have hx':Fits d (4 - k) x:=⟨x1.1,Nat.le_trans (needW_mono (by omega) _ _) x1.2⟩
   obtain ⟨b1,b2,b3⟩:=binL_sp _ (by omega) ih _ _ _ _ _ x3 hx' h
   have : costW (4 - k) x≤costW (5 - k) x:=within_mono (by omega) _ _
   exact ⟨b1,by omega,b3⟩
theorem ofList_isL : ∀ l,(E.ofList l).isL
 | []=>trivial
 | _ :: _=>trivial
theorem toks_cost : ∀ (x:E) (l:List E),(toks (E.ofList (x :: l))).length + 1=(E.ofList (x :: l)).cost
 | x,[]=>by simp [E.ofList,toks,E.cost]
 | x,y :: r=>by
  have:=toks_cost y r
  simp only [E.ofList] at this ⊢
  rw [toks,E.cost]
  ·simp only [List.length_append,List.length_cons]; omega
  ·intro h; cases h
theorem cost_append : ∀ (l:List E) (x:E),(E.ofList (l ++ [x])).cost=(E.ofList l).cost + (toks x).length + 1
 | [],x=>by simp [E.ofList,E.cost]
 | y :: l,x=>by simp only [List.cons_append,E.ofList,E.cost,cost_append l x]; omega
theorem args_sp {z d:Nat} {ex:Ps E} (he:Sp ex (Fits d 0) (costW 0)) : ∀ (f:Nat) (first:Bool) (l:List E) (ts:List Tok) (l':List E) (r:List Tok),Good ts→(∀ x∈l,Fits d 0 x)→argsL z ex f first l ts = .ok l' r →
  (∀ x∈l',Fits d 0 x)∧((l'=l∧1 + bytes r=bytes ts)∨(l'≠[]∧(E.ofList l').cost + 1 + bytes r≤(E.ofList l).cost + bytes ts + (if first then 1 else 0)))∧Good r
 | 0,_,_,_,_,_,_,_,h=>by cases h
 | f + 1,first,l,ts,l',r,hg,hl,h=>by
  rw [argsL] at h
  split at h
  ·rename_i hs
   cases h
   have:=see_cost hg hs
   exact ⟨hl,.inl ⟨rfl,by simpa using this.1⟩,this.2⟩
  ·split at h
   ·cases h
   ·rename_i h2
    have h3 : (Good (if first then ts else ts.tail))∧bytes (if first then ts else ts.tail) + (if first then 0 else 1)=bytes ts:=by
     cases first with
     | true=>exact ⟨hg,rfl⟩
     | false=>
      have hs : see [44] ts=true:=by simpa using h2
      have:=see_cost hg hs
      exact ⟨this.2,by simp only [List.length_cons,List.length_nil] at this; simp; omega⟩
    cases hx : ex (if first then ts else ts.tail) with
    | bad e q=>simp only [hx] at h; cases h
    | ok x r1=>
     obtain ⟨x1,x2,x3⟩:=he _ _ _ h3.1 hx
     simp only [hx] at h
     have hl2 : ∀ y∈l ++ [x],Fits d 0 y:=by
      intro y hy
      rcases List.mem_append.mp hy with hy | hy
      ·exact hl y hy
      ·simp at hy; subst hy; exact x1
     obtain ⟨b1,b2,b3⟩:=args_sp he f false _ _ _ _ x3 hl2 h
     have : costW 0 x=(toks x).length:=by rw [costW,withinK,if_pos (Nat.zero_le _)]
     refine ⟨b1,.inr ?_,b3⟩
     have hca:=cost_append l x
     rcases b2 with ⟨rfl,b2⟩ | ⟨n2,b2⟩
     ·refine ⟨by simp,?_⟩
      rw [hca]
      cases first <;> simp at * <;> omega
     ·refine ⟨n2,?_⟩
      rw [hca] at b2
      cases first <;> simp at * <;> omega
theorem list_fits {d:Nat} : ∀ l:List E,(∀ x∈l,Fits d 0 x)→WF (E.ofList l)∧need (E.ofList l)≤d
 | [],_=>⟨trivial,Nat.zero_le _⟩
 | x :: l,h=>by
  have h1:=h x (by simp)
  have h2:=list_fits l fun y hy=>h y (by simp [hy])
  have h3:=h1.2
  rw [needW,if_pos (Nat.zero_le _)] at h3
  exact ⟨⟨h1.1,h2.1,ofList_isL l⟩,by rw [E.ofList,need]; omega⟩
theorem fits_top {d:Nat} {x:E} (h:WF x∧x.isX) (hl : lvl x=5) (hn : need x≤d):Fits d 5 x∧costW 5 x=(toks x).length:=by
 refine ⟨⟨h,?_⟩,?_⟩
 ·rw [needW,if_pos (by omega)]; exact hn
 ·rw [costW,withinK,if_pos (by omega)]
theorem fits0 {d:Nat} {x:E} (h:Fits d 0 x) : need x≤d∧costW 0 x=(toks x).length:=by
 have:=h.2
 rw [needW,if_pos (Nat.zero_le _)] at this
 exact ⟨this,by rw [costW,withinK,if_pos (Nat.zero_le _)]⟩
theorem named_sp {z d:Nat} {ex:Ps E} (he:Sp ex (Fits d 0) (costW 0)):Sp (named z ex) (Fits (d + 1) 5) (costW 5):=by
 intro ts a r hg h
 rw [named] at h
 cases hq : qual z ts with
 | bad e p=>simp only [hq] at h; cases h
 | ok q r1=>
  obtain ⟨q1,q2,q3⟩:=qual_sp _ _ _ hg hq
  replace q2 : (qualK q.1 q.2).length + bytes r1≤bytes ts:=q2
  simp only [hq] at h
  split at h
  ·rename_i hs
   have hc:=see_cost q3 hs
   cases hx : ex r1.tail with
   | bad e p=>simp only [hx] at h; cases h
   | ok i r2=>
    obtain ⟨x1,x2,x3⟩:=he _ _ _ hc.2 hx
    simp only [hx] at h
    cases hm : must z [93] r2 with
    | bad e p=>simp only [hm] at h; cases h
    | ok u r3=>
     have m1:=must_sp x3 hm
     simp only [hm] at h
     cases h
     have ⟨n1,c1⟩:=fits0 x1
     obtain ⟨f1,f2⟩:=fits_top (d:=d + 1) (x:=.item (hd z ts) q.1 q.2 i) ⟨⟨q1.1,q1.2,x1.1⟩,trivial⟩ rfl (by rw [need]; omega)
     refine ⟨f1,?_,m1.2⟩
     rw [f2,toks]
     simp only [List.length_append,List.length_cons,List.length_nil] at *
     omega
  ·split at h
   ·rename_i hs
    have hc:=see_cost q3 hs
    cases hx : argsL z ex (r1.length + 1) true [] r1.tail with
    | bad e p=>simp only [hx] at h; cases h
    | ok l r2=>
     obtain ⟨x1,x2,x3⟩:=args_sp he _ _ _ _ _ _ hc.2 (by simp) hx
     simp only [hx] at h
     cases h
     have ⟨n1,n2⟩:=list_fits l x1
     have n3 : (toks (E.ofList l)).length + 1 + bytes r≤bytes r1.tail:=by
      rcases x2 with ⟨rfl,x2⟩ | ⟨x2,x3⟩
      ·simp [E.ofList,toks]; omega
      ·cases l with
       | nil=>exact absurd rfl x2
       | cons y l=>have:=toks_cost y l; simp only [E.ofList,E.cost,if_true] at *; omega
     obtain ⟨f1,f2⟩:=fits_top (d:=d + 1) (x:=.app (hd z ts) q.1 q.2 (E.ofList l)) ⟨⟨q1.1,q1.2,n1,ofList_isL l⟩,trivial⟩ rfl (by rw [need]; omega)
     refine ⟨f1,?_,x3⟩
     rw [f2,toks]
     simp only [List.length_append,List.length_cons,List.length_nil] at *
     omega
   ·cases h
    obtain ⟨f1,f2⟩:=fits_top (d:=d + 1) (x:=.var (hd z ts) q.1 q.2) ⟨⟨q1.1,q1.2⟩,trivial⟩ rfl (by rw [need]; omega)
    exact ⟨f1,by rw [f2,toks]; exact q2,q3⟩
theorem one_sp (z:Nat) : ∀ d,Sp (one z d) (Fits d 5) (costW 5)
 | 0=>by intro ts a r _ h; cases h
 | d + 1=>by
  intro ts a r hg h
  have ih:=one_sp z d
  have hex:Sp (expr z (one z d) 5) (Fits d 0) (costW 0):=expr_sp ih 5 (Nat.le_refl _)
  have un : ∀ (s:List UInt8),(s=[45]∨s=[110,111,116])→see s ts=true→(match one z d ts.tail with | .bad e p=>R.bad e p | .ok x r=>.ok (.un (hd z ts) s x) r)=R.ok a r→Fits (d + 1) 5 a∧costW 5 a + bytes r≤bytes ts∧Good r:=by
   intro s hs h1 h
   have hc:=see_cost hg h1
   have hl : 1≤s.length:=by rcases hs with rfl | rfl <;> simp
   cases hx : one z d ts.tail with
   | bad e p=>simp only [hx] at h; cases h
   | ok x r1=>
    obtain ⟨x1,x2,x3⟩:=ih _ _ _ hc.2 hx
    simp only [hx] at h
    cases h
    obtain ⟨f1,f2⟩:=fits_top (d:=d + 1) (x:=.un (hd z ts) s x) ⟨⟨hs,x1.1⟩,trivial⟩ rfl (by rw [need]; have:=x1.2; omega)
    refine ⟨f1,?_,x3⟩
    rw [f2,toks,List.length_cons]
    rw [costW] at x2
    omega
  rw [one] at h
  dsimp only at h
  split at h
  ·rename_i h1; exact un _ (.inl rfl) h1 h
  ·split at h
   ·rename_i h1; exact un _ (.inr rfl) h1 h
   ·split at h
    ·rename_i h1
     have hc:=see_cost hg h1
     cases hx : expr z (one z d) 5 ts.tail with
     | bad e p=>simp only [hx] at h; cases h
     | ok x r1=>
      obtain ⟨x1,x2,x3⟩:=hex _ _ _ hc.2 hx
      simp only [hx] at h
      cases hm : must z [41] r1 with
      | bad e p=>simp only [hm] at h; cases h
      | ok u r2=>
       have m1:=must_sp x3 hm
       simp only [hm] at h
       cases h
       have ⟨n1,c1⟩:=fits0 x1
       refine ⟨⟨x1.1,?_⟩,?_,m1.2⟩
       ·rw [needW]; split <;> omega
       ·have:=within_len 5 a (toks a)
        rw [costW]
        simp only [List.length_cons,List.length_nil] at *
        omega
    ·cases ts with
     | nil=>exact named_sp hex _ _ _ hg h
     | cons t ts=>
      simp only at h
      split at h
      ·rename_i hk
       cases hn : number z 9223372036854775807 (t :: ts) with
       | bad e p=>simp only [hn] at h; cases h
       | ok n r1=>
        obtain ⟨a1,a2,a3⟩:=number_sp _ _ _ hg hn
        simp only [hn] at h
        cases h
        obtain ⟨f1,f2⟩:=fits_top (d:=d + 1) (x:=.num t.pos n) ⟨a1,trivial⟩ rfl (by rw [need]; omega)
        exact ⟨f1,by rw [f2,toks]; exact a2,a3⟩
      ·exact named_sp hex _ _ _ hg h
theorem ex0_sp (z:Nat):Sp (ex0 z) (Fits 11 0) (costW 0):=expr_sp (one_sp z 11) 5 (Nat.le_refl _)
end Go.Mq.Tree
namespace Go.Mq.Tree
open Go Go.RowKit Go.Mq
def WFS:Nat→S→Prop
 | _,.nil=>True
 | d,.set _ n i v r=>Nm n∧(∀ x,i=some x→Fits 10 0 x)∧Fits 11 0 v∧WFS d r
 | d,.ifs _ v t e r=>Fits 11 0 v∧((0 < d∧WFS (d - 1) t)∧0 < d∧WFS (d - 1) e)∧WFS d r
 | d,.whil _ v t r=>Fits 11 0 v∧(0 < d∧WFS (d - 1) t)∧WFS d r
 | d,.ret _ v r=>Fits 11 0 v∧WFS d r
 | d,.wri _ v r=>Fits 11 0 v∧WFS d r
 | d,.call _ v r=>(Fits 11 5 v ∧ ∃ p m n l,v = .app p m n l)∧WFS d r
abbrev BQ (d:Nat) (s:S):Prop:=0 < d∧WFS (d - 1) s
def indexK:Option E→List (List UInt8)
 | some x=>[91] :: (toks x ++ [[93]])
 | none=>[]
def stmtK:S→List (List UInt8)
 | .nil=>[]
 | .set _ n i v r=>n :: (indexK i ++ [58,61] :: (toks v ++ [59] :: stmtK r))
 | .ret _ v r=>[114,101,116,117,114,110] :: (toks v ++ [59] :: stmtK r)
 | .wri _ v r=>[119,114,105,116,101] :: (toks v ++ [59] :: stmtK r)
 | .call _ v r=>toks v ++ [59] :: stmtK r
 | .whil _ v t r=>[119,104,105,108,101] :: (toks v ++ [100,111] :: (stmtK t ++ [101,110,100] :: [59] :: stmtK r))
 | .ifs _ v t e r=>[105,102] :: (toks v ++ [116,104,101,110] :: (stmtK t ++ ((if e.isNil then [] else [101,108,115,101] :: stmtK e) ++ [101,110,100] :: [59] :: stmtK r)))
theorem WFS_app : ∀ (d:Nat) (l s:S),WFS d l→WFS d s→WFS d (l.app s)
 | _,.nil,_,_,h=>h
 | d,.set _ _ _ _ r,s,h,hs=>⟨h.1,h.2.1,h.2.2.1,WFS_app d r s h.2.2.2 hs⟩
 | d,.ifs _ _ _ _ r,s,h,hs=>⟨h.1,h.2.1,WFS_app d r s h.2.2 hs⟩
 | d,.whil _ _ _ r,s,h,hs=>⟨h.1,h.2.1,WFS_app d r s h.2.2 hs⟩
 | d,.ret _ _ r,s,h,hs=>⟨h.1,WFS_app d r s h.2 hs⟩
 | d,.wri _ _ r,s,h,hs=>⟨h.1,WFS_app d r s h.2 hs⟩
 | d,.call _ _ r,s,h,hs=>⟨h.1,WFS_app d r s h.2 hs⟩
theorem stmtK_app : ∀ (l s:S),stmtK (l.app s)=stmtK l ++ stmtK s
 | .nil,_=>rfl
 | .set _ _ _ _ r,s=>by simp [S.app,stmtK,stmtK_app r s]
 | .ifs _ _ _ _ r,s=>by simp [S.app,stmtK,stmtK_app r s]
 | .whil _ _ _ r,s=>by simp [S.app,stmtK,stmtK_app r s]
 | .ret _ _ r,s=>by simp [S.app,stmtK,stmtK_app r s]
 | .wri _ _ r,s=>by simp [S.app,stmtK,stmtK_app r s]
 | .call _ _ r,s=>by simp [S.app,stmtK,stmtK_app r s]
def Sp1 {α:Type} (p:Ps α) (Q : α→Prop) (c : α→Nat):Prop:=∀ ts a r,Good ts→p ts = .ok a r→Q a∧c a + bytes r≤bytes ts + 1∧Good r
def costR (x:E × S × S):Nat:=(toks x.1).length + 1 + (stmtK x.2.1).length + (if x.2.2.isNil then 0 else (stmtK x.2.2).length + 1)
theorem ex0_is {z:Nat} {ts r:List Tok} {x:E} (hg:Good ts) (h : ex0 z ts = .ok x r):Fits 11 0 x∧(toks x).length + bytes r≤bytes ts∧Good r:=by
 obtain ⟨h1,h2,h3⟩:=ex0_sp z _ _ _ hg h
 have:=(fits0 h1).2
 exact ⟨h1,by omega,h3⟩
theorem first_sp (z d p:Nat):Sp1 (first z p) (WFS d) (fun s=>(stmtK s).length):=by
 intro ts a r hg h
 rw [first] at h
 cases hn : named z (expr z (one z 10) 5) ts with
 | bad e q=>simp only [hn] at h; cases h
 | ok e r1=>
  obtain ⟨e1,e2,e3⟩:=named_sp (d:=10) (expr_sp (one_sp z 10) 5 (Nat.le_refl _)) _ _ _ hg hn
  have set : ∀ (n:List UInt8) (i:Option E),Nm n→(∀ x,i=some x→Fits 10 0 x)→1 + (indexK i).length + bytes r1≤bytes ts →
    (match must z [58,61] r1 with | .bad e q=>R.bad e q | .ok _ r2=>match ex0 z r2 with | .bad e q=>.bad e q | .ok v r3=>.ok (.set p n i v .nil) r3)=R.ok a r→WFS d a∧(stmtK a).length + bytes r≤bytes ts + 1∧Good r:=by
   intro n i hn hi hb h
   cases hm : must z [58,61] r1 with
   | bad e q=>simp only [hm] at h; cases h
   | ok u r2=>
    have m1:=must_sp e3 hm
    simp only [hm] at h
    cases hx : ex0 z r2 with
    | bad e q=>simp only [hx] at h; cases h
    | ok v r3=>
     obtain ⟨x1,x2,x3⟩:=ex0_is m1.2 hx
     simp only [hx] at h
     cases h
     refine ⟨⟨hn,hi,x1,trivial⟩,?_,x3⟩
     simp only [stmtK,List.length_cons,List.length_append,List.length_nil] at *
     omega
  cases e with
  | app a2 m n l=>
   simp only [hn] at h
   cases h
   refine ⟨⟨⟨e1,_,_,_,_,rfl⟩,trivial⟩,?_,e3⟩
   rw [costW,withinK,if_pos (show 5≤lvl (E.app a2 m n l) from Nat.le_refl 5)] at e2
   simp only [stmtK,List.length_append,List.length_cons,List.length_nil]
   omega
  | item a2 m n i=>
   simp only [hn] at h
   split at h
   ·cases h
   ·rename_i hm
    have hm : m=[]:=Classical.not_not.mp hm
    subst hm
    have hd:=e1.2
    rw [needW,if_pos (show 5≤lvl (E.item a2 [] n i) from Nat.le_refl 5),need] at hd
    rw [costW,withinK,if_pos (show 5≤lvl (E.item a2 [] n i) from Nat.le_refl 5)] at e2
    refine set n (some i) e1.1.1.2.1 ?_ ?_ h
    ·intro x hx; cases hx; exact ⟨e1.1.1.2.2,by rw [needW,if_pos (Nat.zero_le _)]; omega⟩
    ·simp only [toks,qualK,indexK,if_true,List.length_append,List.length_cons,List.length_nil] at *; omega
  | var a2 m n=>
   simp only [hn] at h
   split at h
   ·cases h
   ·rename_i hm
    have hm : m=[]:=Classical.not_not.mp hm
    subst hm
    rw [costW,withinK,if_pos (show 5≤lvl (E.var a2 [] n) from Nat.le_refl 5)] at e2
    refine set n none e1.1.1.2 (by intro x hx; cases hx) ?_ h
    simp only [toks,qualK,indexK,if_true,List.length_cons,List.length_nil] at *; omega
  | num _ _=>simp only [hn] at h; cases h
  | un _ _ _=>simp only [hn] at h; cases h
  | bin _ _ _ _=>simp only [hn] at h; cases h
  | nil=>simp only [hn] at h; cases h
  | cons _ _=>simp only [hn] at h; cases h
abbrev RQ (d:Nat) (x:E × S × S):Prop:=Fits 11 0 x.1∧BQ d x.2.1∧BQ d x.2.2
theorem restL_sp {z d:Nat} {bd:Ps S} {more:Ps (E × S × S)} (hb:Sp bd (BQ d) (fun s=>(stmtK s).length)) (hm:Sp more (fun x=>0 < d∧RQ (d - 1) x) costR):Sp (restL z bd more) (RQ d) costR:=by
 intro ts a r hg h
 rw [restL] at h
 cases h1 : ex0 z ts with
 | bad e q=>simp only [h1] at h; cases h
 | ok v r1=>
  obtain ⟨a1,a2,a3⟩:=ex0_is hg h1
  simp only [h1] at h
  cases h2 : must z [116,104,101,110] r1 with
  | bad e q=>simp only [h2] at h; cases h
  | ok u r2=>
   have m1:=must_sp a3 h2
   simp only [h2] at h
   cases h3 : bd r2 with
   | bad e q=>simp only [h3] at h; cases h
   | ok t r3=>
    obtain ⟨b1,b2,b3⟩:=hb _ _ _ m1.2 h3
    replace b2 : (stmtK t).length + bytes r3≤bytes r2:=b2
    simp only [h3] at h
    split at h
    ·rename_i hs
     have hc:=see_cost b3 hs
     cases h4 : more r3.tail with
     | bad e q=>simp only [h4] at h; cases h
     | ok x r4=>
      obtain ⟨c1,c2,c3⟩:=hm _ _ _ hc.2 h4
      simp only [h4] at h
      cases h
      refine ⟨⟨a1,b1,c1.1,c1.2.1,⟨c1.2.2.1,c1.2.2.2⟩,trivial⟩,?_,c3⟩
      rw [costR] at c2 ⊢
      have e1 : ((if x.2.2.isNil then [] else [101,108,115,101] :: stmtK x.2.2):List (List UInt8)).length=(if x.2.2.isNil then 0 else (stmtK x.2.2).length + 1):=by split <;> rfl
      simp only [stmtK,S.isNil,List.length_cons,List.length_append,List.length_nil,e1] at *
      simp only [Bool.false_eq_true,if_false]
      omega
    ·split at h
     ·rename_i hs
      have hc:=see_cost b3 hs
      cases h4 : bd r3.tail with
      | bad e q=>simp only [h4] at h; cases h
      | ok e2 r4=>
       obtain ⟨c1,c2,c3⟩:=hb _ _ _ hc.2 h4
       replace c2 : (stmtK e2).length + bytes r≤bytes r3.tail:=by simp only [h4] at h; cases h; exact c2
       simp only [h4] at h
       cases h
       refine ⟨⟨a1,b1,c1⟩,?_,c3⟩
       rw [costR]
       simp only [List.length_cons,List.length_nil] at *
       split <;> omega
     ·cases h
      refine ⟨⟨a1,b1,b1.1,trivial⟩,?_,b3⟩
      rw [costR]
      simp only [S.isNil,if_true,List.length_cons,List.length_nil] at *
      omega
theorem stmt_sp {z d:Nat} {bd:Ps S} {rest:Ps (E × S × S)} (hb:Sp bd (BQ d) (fun s=>(stmtK s).length)) (hr:Sp rest (RQ d) costR):Sp1 (stmt z bd rest) (WFS d) (fun s=>(stmtK s).length):=by
 intro ts a r hg h
 rw [stmt] at h
 split at h
 ·rename_i hs
  have hc:=see_cost hg hs
  cases h1 : rest ts.tail with
  | bad e q=>simp only [h1] at h; cases h
  | ok x r1=>
   obtain ⟨a1,a2,a3⟩:=hr _ _ _ hc.2 h1
   simp only [h1] at h
   cases h2 : must z [101,110,100] r1 with
   | bad e q=>simp only [h2] at h; cases h
   | ok u r2=>
    have m1:=must_sp a3 h2
    simp only [h2] at h
    cases h
    refine ⟨⟨a1.1,⟨a1.2.1,a1.2.2⟩,trivial⟩,?_,m1.2⟩
    rw [costR] at a2
    have e1 : ((if x.2.2.isNil then [] else [101,108,115,101] :: stmtK x.2.2):List (List UInt8)).length=(if x.2.2.isNil then 0 else (stmtK x.2.2).length + 1):=by split <;> rfl
    simp only [stmtK,List.length_cons,List.length_append,List.length_nil,e1] at *
    omega
 ·split at h
  ·rename_i hs
   have hc:=see_cost hg hs
   cases h1 : ex0 z ts.tail with
   | bad e q=>simp only [h1] at h; cases h
   | ok v r1=>
    obtain ⟨a1,a2,a3⟩:=ex0_is hc.2 h1
    simp only [h1] at h
    cases h2 : must z [100,111] r1 with
    | bad e q=>simp only [h2] at h; cases h
    | ok u r2=>
     have m1:=must_sp a3 h2
     simp only [h2] at h
     cases h3 : bd r2 with
     | bad e q=>simp only [h3] at h; cases h
     | ok t r3=>
      obtain ⟨b1,b2,b3⟩:=hb _ _ _ m1.2 h3
      simp only [h3] at h
      cases h4 : must z [101,110,100] r3 with
      | bad e q=>simp only [h4] at h; cases h
      | ok u r4=>
       have m2:=must_sp b3 h4
       simp only [h4] at h
       cases h
       refine ⟨⟨a1,b1,trivial⟩,?_,m2.2⟩
       simp only [stmtK,List.length_cons,List.length_append,List.length_nil] at *
       omega
  ·split at h
   ·rename_i hs
    have hc:=see_cost hg hs
    cases h1 : ex0 z ts.tail with
    | bad e q=>simp only [h1] at h; cases h
    | ok v r1=>
     obtain ⟨a1,a2,a3⟩:=ex0_is hc.2 h1
     simp only [h1] at h
     cases h
     refine ⟨⟨a1,trivial⟩,?_,a3⟩
     simp only [stmtK,List.length_cons,List.length_append,List.length_nil] at *
     omega
   ·split at h
    ·rename_i hs
     have hc:=see_cost hg hs
     cases h1 : ex0 z ts.tail with
     | bad e q=>simp only [h1] at h; cases h
     | ok v r1=>
      obtain ⟨a1,a2,a3⟩:=ex0_is hc.2 h1
      simp only [h1] at h
      cases h
      refine ⟨⟨a1,trivial⟩,?_,a3⟩
      simp only [stmtK,List.length_cons,List.length_append,List.length_nil] at *
      omega
    ·exact first_sp z d _ _ _ _ hg h
theorem bodyL_sp {z d:Nat} {st:Ps S} (hs:Sp1 st (WFS d) (fun s=>(stmtK s).length)) : ∀ (f:Nat) (l:S) (ts:List Tok) (a:S) (r:List Tok),Good ts→WFS d l→bodyL z st f l ts = .ok a r→WFS d a∧(stmtK a).length + bytes r≤(stmtK l).length + bytes ts∧Good r
 | 0,_,_,_,_,_,_,h=>by cases h
 | f + 1,l,ts,a,r,hg,hl,h=>by
  rw [bodyL] at h
  split at h
  ·cases h; exact ⟨hl,Nat.le_refl _,hg⟩
  ·cases h1 : st ts with
   | bad e q=>simp only [h1] at h; cases h
   | ok s r1=>
    obtain ⟨a1,a2,a3⟩:=hs _ _ _ hg h1
    replace a2 : (stmtK s).length + bytes r1≤bytes ts + 1:=a2
    simp only [h1] at h
    cases h2 : must z [59] r1 with
    | bad e q=>simp only [h2] at h; cases h
    | ok u r2=>
     have m1:=must_sp a3 h2
     simp only [h2] at h
     obtain ⟨b1,b2,b3⟩:=bodyL_sp hs f _ _ _ _ m1.2 (WFS_app d l s hl a1) h
     rw [stmtK_app,List.length_append] at b2
     simp only [List.length_cons,List.length_nil] at m1
     exact ⟨b1,by omega,b3⟩
theorem bodies_sp (z:Nat) : ∀ d,Sp (bodies z d).1 (BQ d) (fun s=>(stmtK s).length)∧Sp (bodies z d).2 (fun x=>0 < d∧RQ (d - 1) x) costR
 | 0=>⟨fun ts a r _ h=>(by cases h),fun ts a r _ h=>(by cases h)⟩
 | d + 1=>by
  obtain ⟨h1,h2⟩:=bodies_sp z d
  have hr:=restL_sp (z:=z) h1 h2
  refine ⟨fun ts a r hg h=>?_,fun ts a r hg h=>?_⟩
  ·obtain ⟨a1,a2,a3⟩:=bodyL_sp (stmt_sp (z:=z) h1 hr) _ .nil _ _ _ hg trivial h
   exact ⟨⟨Nat.succ_pos _,a1⟩,by simpa [stmtK] using a2,a3⟩
  ·obtain ⟨a1,a2,a3⟩:=hr _ _ _ hg h
   exact ⟨⟨Nat.succ_pos _,a1⟩,a2,a3⟩
theorem body0_sp (z:Nat):Sp (body0 z) (WFS 10) (fun s=>(stmtK s).length):=fun ts a r hg h=>by
 obtain ⟨a1,a2,a3⟩:=(bodies_sp z 11).1 ts a r hg h
 exact ⟨a1.2,a2,a3⟩
structure WFG (g:Glob):Prop where
 name:Nm g.name
 low : 0≤g.len
 high : g.len≤30
structure WFP (x:Proc):Prop where
 name:Nm x.name
 params : ∀ n∈x.params,Nm n
 few : x.params.length≤10
 vars : ∀ n∈x.vars,Nm n
 room : x.vars.length≤10 - x.params.length
 body:WFS 10 x.body
structure WFM (m:Mod):Prop where
 name:Nm m.name
 imports : ∀ n∈m.imports,Nm n
 few : m.imports.length≤6
 vars : ∀ g∈m.vars,WFG g
 fewv : m.vars.length≤10
 procs : ∀ x∈m.procs,WFP x
 fewp : m.procs.length≤10
 body:WFS 10 m.body
def namesK:List (List UInt8)→List (List UInt8)
 | []=>[]
 | [n]=>[n]
 | n :: m :: r=>n :: [44] :: namesK (m :: r)
def starK (b:Bool):List (List UInt8):=if b then [[42]] else []
def globK (g:Glob):List (List UInt8):=[118,97,114] :: g.name :: (starK g.seen ++ [58] :: ((if 0 < g.len then [[97,114,114,97,121],Lib.itoa g.len] else [[105,110,116]]) ++ [[59]]))
def headK (s:List UInt8) (l:List (List UInt8)):List (List UInt8):=if l=[] then [] else s :: (namesK l ++ [[59]])
def procK (x:Proc):List (List UInt8):=[112,114,111,99] :: x.name :: (starK x.seen ++ [40] :: (namesK x.params ++ [41] :: [59] :: (headK [118,97,114] x.vars ++ [98,101,103,105,110] :: (stmtK x.body ++ [[101,110,100],[59]]))))
def modK (m:Mod):List (List UInt8):=[109,111,100,117,108,101] :: m.name :: [59] :: (headK [105,109,112,111,114,116] m.imports ++ (m.vars.flatMap globK ++ (m.procs.flatMap procK ++ [98,101,103,105,110] :: (stmtK m.body ++ [[101,110,100],[46]]))))
theorem namesK_len : ∀ (l:List (List UInt8)),l≠[]→(namesK l).length + 1=2 * l.length
 | [n],_=>rfl
 | n :: m :: r,_=>by have:=namesK_len (m :: r) (by simp); simp only [namesK,List.length_cons] at *; omega
theorem skip_cost {s:List UInt8} {ts:List Tok} (hg:Good ts) (hs : s≠[]) : (starK (see s ts)).length + bytes (skip s ts)≤bytes ts∧Good (skip s ts):=by
 rw [skip]
 cases h : see s ts with
 | false=>simp [starK,hg]
 | true=>
  have:=see_cost hg h
  have : 1≤s.length:=by cases s with | nil=>exact absurd rfl hs | cons _ _=>simp
  simp [starK]
  exact ⟨by omega,(see_cost hg h).2⟩
theorem kindOf_sp (z:Nat):Sp (kindOf z) (fun n=>0≤n∧n≤30) (fun n=>if 0 < n then 2 else 1):=by
 intro ts n r hg h
 rw [kindOf] at h
 split at h
 ·rename_i hs
  have hc:=see_cost hg hs
  cases hn : number z 30 ts.tail with
  | bad e q=>simp only [hn] at h; cases h
  | ok n' r1=>
   obtain ⟨a1,a2,a3⟩:=number_sp _ _ _ hc.2 hn
   replace a2 : 1 + bytes r1≤bytes ts.tail:=a2
   simp only [hn] at h
   split at h
   ·cases h
   ·cases h
    refine ⟨a1,?_,a3⟩
    simp only [List.length_cons,List.length_nil] at hc
    show (if 0 < n then 2 else 1) + _≤_
    split <;> omega
 ·cases hm : must z [105,110,116] ts with
  | bad e q=>simp only [hm] at h; cases h
  | ok u r1=>
   have m1:=must_sp hg hm
   simp only [hm] at h
   cases h
   simp only [List.length_cons,List.length_nil] at m1
   exact ⟨⟨by omega,by omega⟩,by show 1 + _≤_; omega,m1.2⟩
theorem glob_sp (z:Nat) : ∀ ts g r,Good ts→glob z ts = .ok g r→WFG g∧(globK g).length + bytes r≤bytes ts + 1∧Good r:=by
 intro ts g r hg h
 rw [glob] at h
 cases h1 : name z ts with
 | bad e q=>simp only [h1] at h; cases h
 | ok n r1=>
  obtain ⟨a1,a2,a3⟩:=name_sp _ _ _ hg h1
  replace a2 : 1 + bytes r1≤bytes ts:=a2
  simp only [h1] at h
  have hk:=skip_cost (s:=[42]) a3 (by simp)
  cases h2 : must z [58] (skip [42] r1) with
  | bad e q=>simp only [h2] at h; cases h
  | ok u r2=>
   have m1:=must_sp hk.2 h2
   simp only [h2] at h
   cases h3 : kindOf z r2 with
   | bad e q=>simp only [h3] at h; cases h
   | ok k r3=>
    obtain ⟨b1,b2,b3⟩:=kindOf_sp z _ _ _ m1.2 h3
    replace b2 : (if 0 < k then 2 else 1) + bytes r3≤bytes r2:=b2
    simp only [h3] at h
    cases h4 : must z [59] r3 with
    | bad e q=>simp only [h4] at h; cases h
    | ok u r4=>
     have m2:=must_sp b3 h4
     simp only [h4] at h
     cases h
     refine ⟨⟨a1,b1.1,b1.2⟩,?_,m2.2⟩
     have e1 : ((if 0 < k then [[97,114,114,97,121],Lib.itoa k] else [[105,110,116]]):List (List UInt8)).length=if 0 < k then 2 else 1:=by split <;> rfl
     simp only [globK,List.length_cons,List.length_append,List.length_nil,e1] at *
     omega
theorem varsL_sp (z:Nat) : ∀ (f:Nat) (l:List Glob) (ts:List Tok) (a:List Glob) (r:List Tok),Good ts→(∀ g∈l,WFG g)→l.length≤10→varsL z f l ts = .ok a r→(∀ g∈a,WFG g)∧a.length≤10∧(a.flatMap globK).length + bytes r≤(l.flatMap globK).length + bytes ts∧Good r
 | 0,_,_,_,_,_,_,_,h=>by cases h
 | f + 1,l,ts,a,r,hg,hl,hn,h=>by
  rw [varsL] at h
  split at h
  ·rename_i hs
   have hc:=see_cost hg hs
   split at h
   ·cases h
   ·cases h1 : glob z ts.tail with
    | bad e q=>simp only [h1] at h; cases h
    | ok g r1=>
     obtain ⟨a1,a2,a3⟩:=glob_sp z _ _ _ hc.2 h1
     simp only [h1] at h
     obtain ⟨b1,b2,b3,b4⟩:=varsL_sp z f _ _ _ _ a3 (by
      intro x hx
      rcases List.mem_append.mp hx with hx | hx
      ·exact hl x hx
      ·simp at hx; subst hx; exact a1) (by simp; omega) h
     refine ⟨b1,b2,?_,b4⟩
     simp only [List.flatMap_append,List.flatMap_cons,List.flatMap_nil,List.append_nil,List.length_append,List.length_cons,List.length_nil] at *
     omega
  ·cases h; exact ⟨hl,hn,Nat.le_refl _,hg⟩
theorem params_sp (z:Nat) : ∀ ts l r,Good ts→params z ts = .ok l r→(∀ n∈l,Nm n)∧l.length≤10∧(namesK l).length + 1 + bytes r≤bytes ts∧Good r:=by
 intro ts l r hg h
 rw [params] at h
 split at h
 ·rename_i hs
  have hc:=see_cost hg hs
  cases h
  simp only [List.length_cons,List.length_nil] at hc
  exact ⟨by simp,by simp,by simp [namesK]; omega,hc.2⟩
 ·cases h1 : names z 10 ts with
  | bad e q=>simp only [h1] at h; cases h
  | ok l' r1=>
   obtain ⟨a1,a2,a3,a4,a5⟩:=names_sp hg h1
   simp only [h1] at h
   cases h2 : must z [41] r1 with
   | bad e q=>simp only [h2] at h; cases h
   | ok u r2=>
    have m1:=must_sp a5 h2
    simp only [h2] at h
    cases h
    have:=namesK_len l a3
    simp only [List.length_cons,List.length_nil] at m1
    exact ⟨a1,a2,by omega,m1.2⟩
theorem head_sp {z most:Nat} {s:List UInt8} {ts:List Tok} {l:List (List UInt8)} {r:List Tok} (hs : s≠[]) (hg:Good ts) (h : (if see s ts then match names z most ts.tail with
  | .bad e p=>.bad e p
  | .ok l r=>match must z [59] r with
   | .bad e p=>.bad e p
   | .ok _ r2=>.ok l r2
 else R.ok [] ts) = .ok l r) : (∀ n∈l,Nm n)∧l.length≤most∧(headK s l).length + bytes r≤bytes ts∧Good r:=by
 split at h
 ·rename_i h0
  have hc:=see_cost hg h0
  have hl : 1≤s.length:=by cases s with | nil=>exact absurd rfl hs | cons _ _=>simp
  cases h1 : names z most ts.tail with
  | bad e q=>simp only [h1] at h; cases h
  | ok l' r1=>
   obtain ⟨a1,a2,a3,a4,a5⟩:=names_sp hc.2 h1
   simp only [h1] at h
   cases h2 : must z [59] r1 with
   | bad e q=>simp only [h2] at h; cases h
   | ok u r2=>
    have m1:=must_sp a5 h2
    simp only [h2] at h
    cases h
    have:=namesK_len l a3
    refine ⟨a1,a2,?_,m1.2⟩
    rw [headK,if_neg a3]
    simp only [List.length_cons,List.length_append,List.length_nil] at *
    omega
 ·cases h; exact ⟨by simp,by simp,by simp [headK],hg⟩
theorem block_sp (z:Nat) {m:List UInt8} (hm : m.length=1) : ∀ ts b r,Good ts→block z m ts = .ok b r→WFS 10 b∧(stmtK b).length + 3 + bytes r≤bytes ts∧Good r:=by
 intro ts b r hg h
 rw [block] at h
 cases h1 : must z [98,101,103,105,110] ts with
 | bad e q=>simp only [h1] at h; cases h
 | ok u r1=>
  have m1:=must_sp hg h1
  simp only [h1] at h
  cases h2 : body0 z r1 with
  | bad e q=>simp only [h2] at h; cases h
  | ok s r2=>
   obtain ⟨a1,a2,a3⟩:=body0_sp z _ _ _ m1.2 h2
   replace a2 : (stmtK s).length + bytes r2≤bytes r1:=a2
   simp only [h2] at h
   cases h3 : must z [101,110,100] r2 with
   | bad e q=>simp only [h3] at h; cases h
   | ok u r3=>
    have m2:=must_sp a3 h3
    simp only [h3] at h
    cases h4 : must z m r3 with
    | bad e q=>simp only [h4] at h; cases h
    | ok u r4=>
     have m3:=must_sp m2.2 h4
     simp only [h4] at h
     cases h
     simp only [List.length_cons,List.length_nil] at m1 m2 m3
     exact ⟨a1,by omega,m3.2⟩
theorem proc_sp (z:Nat) : ∀ ts x r,Good ts→proc z ts = .ok x r→WFP x∧(procK x).length + bytes r≤bytes ts∧Good r:=by
 intro ts x r hg h
 rw [proc] at h
 cases h1 : must z [112,114,111,99] ts with
 | bad e q=>simp only [h1] at h; cases h
 | ok u r1=>
  have m1:=must_sp hg h1
  simp only [h1] at h
  cases h2 : name z r1 with
  | bad e q=>simp only [h2] at h; cases h
  | ok n r2=>
   obtain ⟨a1,a2,a3⟩:=name_sp _ _ _ m1.2 h2
   replace a2 : 1 + bytes r2≤bytes r1:=a2
   simp only [h2] at h
   have hk:=skip_cost (s:=[42]) a3 (by simp)
   cases h3 : must z [40] (skip [42] r2) with
   | bad e q=>simp only [h3] at h; cases h
   | ok u r3=>
    have m2:=must_sp hk.2 h3
    simp only [h3] at h
    cases h4 : params z r3 with
    | bad e q=>simp only [h4] at h; cases h
    | ok ps r4=>
     obtain ⟨b1,b2,b3,b4⟩:=params_sp z _ _ _ m2.2 h4
     simp only [h4] at h
     cases h5 : must z [59] r4 with
     | bad e q=>simp only [h5] at h; cases h
     | ok u r5=>
      have m3:=must_sp b4 h5
      simp only [h5] at h
      cases h6 : locals z (10 - ps.length) r5 with
      | bad e q=>simp only [h6] at h; cases h
      | ok vs r6=>
       obtain ⟨c1,c2,c3,c4⟩:=head_sp (s:=[118,97,114]) (by simp) m3.2 h6
       simp only [h6] at h
       cases h7 : block z [59] r6 with
       | bad e q=>simp only [h7] at h; cases h
       | ok b r7=>
        obtain ⟨d1,d2,d3⟩:=block_sp z rfl _ _ _ c4 h7
        simp only [h7] at h
        cases h
        refine ⟨⟨a1,b1,b2,c1,c2,d1⟩,?_,d3⟩
        simp only [procK,List.length_cons,List.length_append,List.length_nil] at *
        omega
theorem procsL_sp (z:Nat) : ∀ (f:Nat) (l:List Proc) (ts:List Tok) (a:List Proc) (r:List Tok),Good ts→(∀ g∈l,WFP g)→l.length≤10→procsL z f l ts = .ok a r→(∀ g∈a,WFP g)∧a.length≤10∧(a.flatMap procK).length + bytes r≤(l.flatMap procK).length + bytes ts∧Good r
 | 0,_,_,_,_,_,_,_,h=>by cases h
 | f + 1,l,ts,a,r,hg,hl,hn,h=>by
  rw [procsL] at h
  split at h
  ·split at h
   ·cases h
   ·cases h1 : proc z ts with
    | bad e q=>simp only [h1] at h; cases h
    | ok g r1=>
     obtain ⟨a1,a2,a3⟩:=proc_sp z _ _ _ hg h1
     simp only [h1] at h
     obtain ⟨b1,b2,b3,b4⟩:=procsL_sp z f _ _ _ _ a3 (by
      intro x hx
      rcases List.mem_append.mp hx with hx | hx
      ·exact hl x hx
      ·simp at hx; subst hx; exact a1) (by simp; omega) h
     refine ⟨b1,b2,?_,b4⟩
     simp only [List.flatMap_append,List.flatMap_cons,List.flatMap_nil,List.append_nil,List.length_append] at *
     omega
  ·cases h; exact ⟨hl,hn,Nat.le_refl _,hg⟩
theorem module_sp (z:Nat) : ∀ ts m r,Good ts→module_ z ts = .ok m r→WFM m∧(modK m).length + bytes r≤bytes ts∧Good r:=by
 intro ts m r hg h
 rw [module_] at h
 cases h1 : must z [109,111,100,117,108,101] ts with
 | bad e q=>simp only [h1] at h; cases h
 | ok u r1=>
  have m1:=must_sp hg h1
  simp only [h1] at h
  cases h2 : name z r1 with
  | bad e q=>simp only [h2] at h; cases h
  | ok n r2=>
   obtain ⟨a1,a2,a3⟩:=name_sp _ _ _ m1.2 h2
   replace a2 : 1 + bytes r2≤bytes r1:=a2
   simp only [h2] at h
   cases h3 : must z [59] r2 with
   | bad e q=>simp only [h3] at h; cases h
   | ok u r3=>
    have m2:=must_sp a3 h3
    simp only [h3] at h
    cases h4 : imports z r3 with
    | bad e q=>simp only [h4] at h; cases h
    | ok is r4=>
     obtain ⟨b1,b2,b3,b4⟩:=head_sp (s:=[105,109,112,111,114,116]) (by simp) m2.2 h4
     simp only [h4] at h
     cases h5 : varsL z 11 [] r4 with
     | bad e q=>simp only [h5] at h; cases h
     | ok vs r5=>
      obtain ⟨c1,c2,c3,c4⟩:=varsL_sp z _ _ _ _ _ b4 (by simp) (by simp) h5
      simp only [h5] at h
      cases h6 : procsL z 11 [] r5 with
      | bad e q=>simp only [h6] at h; cases h
      | ok ps r6=>
       obtain ⟨d1,d2,d3,d4⟩:=procsL_sp z _ _ _ _ _ c4 (by simp) (by simp) h6
       simp only [h6] at h
       cases h7 : block z [46] r6 with
       | bad e q=>simp only [h7] at h; cases h
       | ok b r7=>
        obtain ⟨e1,e2,e3⟩:=block_sp z rfl _ _ _ d4 h7
        simp only [h7] at h
        cases h
        refine ⟨⟨a1,b1,b2,c1,c2,d1,d2,e1⟩,?_,e3⟩
        simp only [modK,List.length_cons,List.length_append,List.length_nil,List.flatMap_nil] at *
        omega
theorem parse_sp {l:List UInt8} {m:Mod} (h : parse l = .ok m):WFM m∧(modK m).length≤l.length:=by
 rw [parse] at h
 cases hl : lex l with
 | bad e p=>simp only [hl] at h; cases h
 | ok ts=>
  have h1:=lexL_good _ _ _ _ _ hl
  simp only [hl] at h
  cases hm : module_ l.length ts with
  | bad e p=>simp only [hm] at h; cases h
  | ok m' r=>
   obtain ⟨a1,a2,_⟩:=module_sp _ _ _ _ h1.1 hm
   simp only [hm] at h
   cases r with
   | nil=>cases h; exact ⟨a1,by omega⟩
   | cons t r=>cases h
end Go.Mq.Tree
namespace Go.Proofs.YtojkkgghndeimaaGreatDoor
open Go Go.RowKit Go.Mq Go.Mq.Tree
set_option maxRecDepth 100000
set_option maxHeartbeats 4000000
theorem op_any (k:Nat) (lv:List (List UInt8)) (hk : levels[k]?=some lv) (w:World) (B bp bt z:Nat) (ts:List Tok) (h:Par w B bp bt z ts) :
  Calls Tryz.prog 227 #[ptr bp,.int .i64 k] w (fun e w'=>e = .returned (str ((opOf lv ts).getD []))∧w'=w):=by
 have H:=Lib.hid h
 obtain ⟨b,off,c,c0,_,hc,hcell⟩:=h.laid.levels k lv hk
 have hk5 : k < 5:=(List.getElem?_eq_some_iff.1 hk).1
 have hlv : lv.length≤6:=by
  have : ∀ l∈levels,l.length≤6:=by decide
  exact this lv (List.mem_of_getElem? hk)
 have HCE:=Lib.hid hcell
 clear h hcell hk
 go_enter Tryz.func227,Tryz.ntmps227
 go_wp2_with fail
 go_loopw [6,11] (fun _ i wr=>∃ n:Nat,n≤lv.length∧i = .int .i64 n∧wr=w∧opOf lv ts=(lv.drop n).find? (fun m=>see m ts)) (fun _ i _=>10 - (intOf i).toNat)
 case atStart=>exact ⟨0,Nat.zero_le _,rfl,rfl,rfl⟩
 case round=>
  obtain ⟨n,hn,rfl,rfl,hr⟩:=hrel
  have HR:=Lib.hid hr; clear hr
  by_cases hlt : n < lv.length
  ·have hm : lv[n]?=some lv[n]:=List.getElem?_eq_getElem hlt
   have hcl:=HCE.out n _ hm
   have HS:=Lib.hid (see_any lv[n] wr B bp bt z ts H.out)
   cases hs : see lv[n] ts with
   | true=>
    have HRR:=Lib.hid (show opOf lv ts=some lv[n] by rw [HR.out,List.drop_eq_getElem_cons hlt,List.find?_cons,hs])
    have HI:=Lib.hid hs
    clear hs
    go_wp2_with fail
    refine HS.out.mono ?_; rintro _ w2 ⟨rfl,rfl⟩
    rw [HI.out]
    go_wp2_with fail
    go_ret
    rw [HRR.out]
    exact ⟨rfl,rfl⟩
   | false=>
    have HRR:=Lib.hid (show opOf lv ts=(lv.drop (n + 1)).find? (fun m=>see m ts) by rw [HR.out,List.drop_eq_getElem_cons hlt,List.find?_cons,hs])
    have HI:=Lib.hid hs
    clear hs
    go_wp2_with fail
    refine HS.out.mono ?_; rintro _ w2 ⟨rfl,rfl⟩
    rw [HI.out]
    go_wp2_with fail
    exact ⟨⟨n + 1,by omega,by go_num,by first | rfl | trivial,HRR.out⟩,by simp [intOf]; omega⟩
  ·have hge : n=lv.length:=by omega
   have HRR:=Lib.hid (show opOf lv ts=none by rw [HR.out,hge,List.drop_length]; rfl)
   go_wp2_with fail
   go_ret
   rw [HRR.out]
   exact ⟨rfl,rfl⟩
end Go.Proofs.YtojkkgghndeimaaGreatDoor
namespace Go.Mq.Tree
open Go Go.RowKit Go.Mq
def Mono {α:Type} (p:Ps α):Prop:=∀ ts a r,p ts = .ok a r→r.length≤ts.length
def Eats {α:Type} (p:Ps α):Prop:=∀ ts a r,p ts = .ok a r→r.length < ts.length
theorem Eats.mono {α:Type} {p:Ps α} (h:Eats p):Mono p:=fun ts a r hr=>Nat.le_of_lt (h ts a r hr)
theorem opOf_see {lv:List (List UInt8)} {ts:List Tok} {m:List UInt8} (h : opOf lv ts=some m) : see m ts=true:=by
 have:=List.find?_some h
 simpa using this
theorem binL_mono {sub:Ps E} (hs:Mono sub) (lv:List (List UInt8)) (p:Nat) : ∀ f x,Mono (binL sub lv p f x):=by
 intro f
 induction f with
 | zero=>intro x ts a r h; cases h
 | succ f ih=>
  intro x ts a r h
  rw [binL] at h
  cases ho : opOf lv ts with
  | none=>rw [ho] at h; cases h; exact Nat.le_refl _
  | some m=>
   rw [ho] at h
   have:=see_tail (opOf_see ho)
   cases hsub : sub ts.tail with
   | bad e q=>rw [hsub] at h; cases h
   | ok y r2=>
    rw [hsub] at h
    have h1:=hs _ _ _ hsub
    have h2:=ih _ _ _ _ h
    omega
theorem expr_mono {z:Nat} {base:Ps E} (hb:Mono base) : ∀ k,Mono (expr z base k):=by
 intro k
 induction k with
 | zero=>exact hb
 | succ k ih=>
  intro ts a r h
  rw [expr] at h
  simp only at h
  cases hx : expr z base k ts with
  | bad e q=>rw [hx] at h; cases h
  | ok x r2=>
   rw [hx] at h
   have h1:=ih _ _ _ hx
   have h2:=binL_mono ih _ _ _ _ _ _ _ h
   omega
theorem expr_eats {z:Nat} {base:Ps E} (hb:Eats base) : ∀ k,Eats (expr z base k):=by
 intro k
 induction k with
 | zero=>exact hb
 | succ k ih=>
  intro ts a r h
  rw [expr] at h
  simp only at h
  cases hx : expr z base k ts with
  | bad e q=>rw [hx] at h; cases h
  | ok x r2=>
   rw [hx] at h
   have h1:=ih _ _ _ hx
   have h2:=binL_mono ih.mono _ _ _ _ _ _ _ h
   omega
def stepE (sub:Ps E) (lv:List (List UInt8)) (z:Nat):Ps E:=fun ts=>match sub ts with
 | .bad e p=>.bad e p
 | .ok x r=>binL sub lv (hd z ts) (r.length + 1) x r
def cntOf (w:World) (bp:Nat):Nat:=match w.cell? ⟨bp,0,none⟩ with
 | some v=>lenOf v
 | none=>0
theorem Par.cnt {w:World} {B bp bt z:Nat} {ts:List Tok} (h:Par w B bp bt z ts) : cntOf w bp=ts.length + 1:=by
 obtain ⟨off,c,hb,_⟩:=h.at_
 rw [cntOf,hb.cell 0 _ rfl]
 rfl
abbrev EV (w:World):World→E→Value→Prop:=fun w' e v=>EAt w' (New w w') e [v]
theorem EAt.grown {w w1 w2:World} {bp:Nat} {e:E} {us:List Value} (h:EAt w1 (New w w1) e us) (hbp : bp < w.heap.size) (hc:Chg [bp] w1 w2):EAt w2 (New w w2) e us:=
 (h.kept hc (fun x hx hn=>by simp at hx; have:=hn.1; omega)).mono fun x hx=>⟨hx.1,by have:=hc.size; have:=hx.2; omega⟩
theorem EAt.later {w w0 w1:World} {e:E} {us:List Value} (h:EAt w1 (New w0 w1) e us) (hs : w.heap.size≤w0.heap.size):EAt w1 (New w w1) e us:=h.mono fun _ hx=>⟨Nat.le_trans hs hx.1,hx.2⟩
theorem EAt.ptr {w:World} {F:Nat→Prop} {e:E} : ∀ {v:Value},EAt w F e [v] → ∃ b,v=ptr b:=by
 induction e with
 | num p n=>rintro v ⟨b,h1,_⟩; cases h1; exact ⟨b,rfl⟩
 | var p m n=>rintro v ⟨b,h1,_⟩; cases h1; exact ⟨b,rfl⟩
 | item p m n i ih=>rintro v ⟨b,u,h1,_⟩; cases h1; exact ⟨b,rfl⟩
 | un p op x ih=>rintro v ⟨b,u,h1,_⟩; cases h1; exact ⟨b,rfl⟩
 | bin p op x y ih1 ih2=>rintro v ⟨b,u,v',h1,_⟩; cases h1; exact ⟨b,rfl⟩
 | app p m n l ih=>rintro v ⟨b,a,c,vs,h1,_⟩; cases h1; exact ⟨b,rfl⟩
 | nil=>intro v h; cases h
 | cons x r ih1 ih2=>rintro v ⟨u,vs,h1,h2,h3⟩; cases h1; exact ih1 h2
end Go.Mq.Tree
namespace Go.Proofs.YtojkkgghndeimaaGreatDoor
open Go Go.RowKit Go.Mq Go.Mq.Tree
set_option maxRecDepth 100000
set_option maxHeartbeats 4000000
def OneOK (deep d:Nat):Prop:=∀ (w:World) (B bp bt z:Nat) (ts:List Tok),Par w B bp bt z ts→Calls Tryz.prog 226 #[ptr bp,.int .i64 deep] w (Ended w B bp bt z (one z d ts) (EV w))
def ExOK (level deep:Nat) (ex:Nat→Ps E):Prop:=∀ (w:World) (B bp bt z:Nat) (ts:List Tok),Par w B bp bt z ts→Calls Tryz.prog 197 #[ptr bp,.int .i64 level,.int .i64 deep] w (Ended w B bp bt z (ex z ts) (EV w))
theorem lv_some {lv:List (List UInt8)} {m:List UInt8} {k:Nat} (h : levels[k]?=some lv) (hm : m∈lv) : m≠[]:=by
 have : ∀ l∈levels,∀ m∈l,m≠[]:=by decide
 exact this lv (List.mem_of_getElem? h) m hm
theorem expr_base (deep d:Nat) (hO:OneOK deep d):ExOK 5 deep (fun z=>one z d):=by
 intro w B bp bt z ts h
 have HO:=Lib.hid (hO w B bp bt z ts h)
 have H:=Lib.hid h
 clear h hO
 go_enter Tryz.func197,Tryz.ntmps197
 go_wp2_with fail
 refine HO.out.mono ?_; intro e w1 he
 cases hr : one z d ts with
 | bad en p=>
  rw [hr] at he
  have HE:=Lib.hid he
  obtain ⟨b,rfl⟩:=he.thrown
  clear he
  go_wp2_with fail
  exact ⟨rfl,HE.out⟩
 | ok x r=>
  rw [hr] at he
  have HE:=Lib.hid he
  obtain ⟨_,v,rfl,_⟩:=he
  go_wp2_with fail
  go_ret
  first | exact HE.out | (rw [hr]; exact HE.out)
theorem expr_step (level deep:Nat) (hl : level < 5) (sub:Nat→Ps E) (hmono : ∀ z,Mono (sub z)) (hS:ExOK (level + 1) deep sub) (lv:List (List UInt8)) (hlv : levels[level]?=some lv) (_hdp : deep≤11) :
  ExOK level deep (fun z=>stepE (sub z) lv z):=by
 intro w B bp bt z ts h
 have hS' : ∀ (w:World) (B bp bt z:Nat) (ts:List Tok),Par w B bp bt z ts→Calls Tryz.prog 197 #[ptr bp,.int .i64 ((level:Int) + 1),.int .i64 deep] w (Ended w B bp bt z (sub z ts) (EV w)):=fun w B bp bt z ts h=>by
  have:=hS w B bp bt z ts h
  simpa using this
 have HS:=Lib.hid (hS' w B bp bt z ts h)
 have HSS:=Lib.hid hS'
 have H:=Lib.hid h
 have HLV:=Lib.hid hlv
 have key : ∃ off c n,w.cell? ⟨bp,0,none⟩=some (.slice (some ⟨bt,off,none⟩) (n + 1) c)∧w.cell? ⟨bt,off + 2,none⟩=some (.int .i64 (hd z ts)):=by
  cases ts with
  | nil=>obtain ⟨off,c,c0,_,c2,_⟩:=par_nil h; exact ⟨off,c,0,c0,c2⟩
  | cons t r=>obtain ⟨off,c,_,c0,_,_,c2,_⟩:=par_cons h; exact ⟨off,c,r.length + 1,c0,c2⟩
 obtain ⟨off,c,n,c0,c2⟩:=key
 have hbp:=h.bp_lt
 have HM:=Lib.hid (hmono z)
 have hne5 : ((level:Int) == 5)=false:=by simp; omega
 have hwr:IntKind.i64.wrap ((level:Int) + 1)=(level:Int) + 1:=by
  simp only [IntKind.wrap,IntKind.bits,IntKind.signed]; simp; omega
 clear h hS hS' hlv hmono
 cases hr : sub z ts with
 | bad en p=>
  rw [hr] at HS
  have HR:=Lib.hid hr; clear hr
  go_enter Tryz.func197,Tryz.ntmps197
  go_wp2_with fail
  refine HS.out.mono ?_; intro e w1 he
  have HE:=Lib.hid he
  obtain ⟨b,rfl⟩:=he.thrown
  clear he
  go_wp2_with fail
  refine ⟨rfl,?_⟩
  rw [stepE,HR.out]
  exact HE.out
 | ok x r=>
  rw [hr] at HS
  have HR:=Lib.hid hr; clear hr
  go_enter Tryz.func197,Tryz.ntmps197
  go_wp2_with fail
  refine HS.out.mono ?_; rintro e w1 ⟨hc1,v,rfl,hv,hp1⟩
  have HC1:=Lib.hid hc1; have HV:=Lib.hid hv; have HP1:=Lib.hid hp1
  clear hc1 hv hp1
  go_wp2_with fail
  refine (op_any level lv HLV.out w1 B bp bt z r HP1.out).mono ?_; rintro _ w2 ⟨rfl,rfl⟩
  go_wp2_with fail
  go_loopw [8,9] (fun v op wr=>∃ (f:Nat) (x':E) (ts':List Tok),op=str ((opOf lv ts').getD [])∧binL (sub z) lv (hd z ts) (r.length + 1) x r=binL (sub z) lv (hd z ts) f x' ts'∧ts'.length < f∧EAt wr (New w wr) x' [v]∧Par wr B bp bt z ts'∧Chg [bp] w wr) (fun _ _ wr=>cntOf wr bp)
  case atStart=>exact ⟨r.length + 1,x,r,rfl,rfl,Nat.lt_succ_self _,HV.out,HP1.out,HC1.out⟩
  case round=>
   obtain ⟨f,x',ts',rfl,hb,hf,hx,hp,hc⟩:=hrel
   have HB:=Lib.hid hb; have HX:=Lib.hid hx; have HP:=Lib.hid hp; have HC:=Lib.hid hc
   clear hb hx hp hc
   obtain ⟨f,rfl⟩ : ∃ f',f=f' + 1:=⟨f - 1,by omega⟩
   cases ho : opOf lv ts' with
   | none=>
    have HO:=Lib.hid ho; clear ho
    simp only [Option.getD_none]
    go_wp2_with fail
    go_ret
    simp only [stepE,HR.out]
    rw [HB.out,binL,HO.out]
    exact ⟨HC.out,_,rfl,HX.out,HP.out⟩
   | some m=>
    have hm:=lv_some HLV.out (List.mem_of_find?_eq_some ho)
    have HO:=Lib.hid ho
    have hsee:=opOf_see ho
    have HMU:=Lib.hid (must_any m _ B bp bt z ts' HP.out)
    rw [must,hsee,if_pos rfl] at HMU
    have hst:=see_tail hsee
    clear ho hsee
    simp only [Option.getD_some]
    have hm1 : m.isEmpty=false:=by cases m; exact absurd rfl hm; rfl
    go_wp2_with fail
    refine HMU.out.mono ?_; rintro _ w3 ⟨hc3,_,rfl,rfl,hp3⟩
    have HC3:=Lib.hid hc3; have HP3:=Lib.hid hp3
    clear hc3 hp3
    have hS3:=HSS.out w3 B bp bt z ts'.tail HP3.out
    cases hsub : sub z ts'.tail with
    | bad en p=>
     rw [hsub] at hS3
     have HS3:=Lib.hid hS3
     have HRR:=Lib.hid (show stepE (sub z) lv z ts = .bad en p by simp only [stepE,HR.out]; rw [HB.out,binL,HO.out]; simp only [hsub])
     clear hS3 hsub
     go_wp2_with fail
     refine HS3.out.mono ?_; intro e w4 he
     have HE:=Lib.hid he
     obtain ⟨b,rfl⟩:=he.thrown
     clear he
     go_wp2_with fail
     refine ⟨rfl,?_⟩
     rw [HRR.out]
     exact HE.out.relay (HC.out.then HC3.out)
    | ok y r2=>
     rw [hsub] at hS3
     have HS3:=Lib.hid hS3
     have hr2:=HM.out _ _ _ hsub
     have HRR:=Lib.hid (show binL (sub z) lv (hd z ts) (f + 1) x' ts'=binL (sub z) lv (hd z ts) f (.bin (hd z ts) m x' y) r2 by rw [binL,HO.out]; simp only [hsub])
     clear hS3 hsub
     go_wp2_with fail
     refine HS3.out.mono ?_; rintro e w4 ⟨hc4,v2,rfl,hv2,hp4⟩
     obtain ⟨b2,rfl⟩:=hv2.ptr
     obtain ⟨b1,rfl⟩:=HX.out.ptr
     have HC4:=Lib.hid hc4; have HV2:=Lib.hid hv2; have HP4:=Lib.hid hp4
     clear hc4 hv2 hp4
     go_wp2_with fail
     refine (op_any level lv HLV.out _ B bp bt z r2 (HP4.out.kept ((Chg.refl [] w4).alloc _) (by simp) (by simp) (by simp))).mono ?_; rintro _ w5 ⟨rfl,rfl⟩
     have hx4:=(HX.out.grown hbp (HC3.out.then HC4.out))
     have hs4 : w.heap.size≤w3.heap.size:=(HC.out.then HC3.out).size
     have hy4:=EAt.later HV2.out hs4
     have hs5 : w.heap.size≤w4.heap.size:=Nat.le_trans hs4 HC4.out.size
     have HX4:=Lib.hid hx4; have HY4:=Lib.hid hy4
     clear hx4 hy4
     go_wp2_with fail
     refine ⟨⟨f,.bin (hd z ts) m x' y,r2,rfl,HB.out.trans HRR.out,by omega,?_,HP4.out.kept ((Chg.refl [] w4).alloc _) (by simp) (by simp) (by simp),((HC.out.then HC3.out).then HC4.out).alloc _⟩,?_⟩
     ·have hca:Chg [bp] w4 (w4.alloc (.cells #[.int .i64 5,.int .i64 (hd z ts),.int .i64 0,str [],str [],str m,ptr b1,ptr b2,nils] 155)):=(Chg.refl _ _).alloc _
      exact ⟨w4.heap.size,ptr b1,ptr b2,rfl,⟨hs5,by simp⟩,Blk.new _ _ _,HX4.out.grown hbp hca,HY4.out.grown hbp hca⟩
     ·rw [(HP4.out.kept ((Chg.refl [] w4).alloc _) (by simp) (by simp) (by simp)).cnt,HP.out.cnt]
      omega
theorem expr_level (deep d:Nat) (hO:OneOK deep d) (hmono : ∀ z,Mono (one z d)) (hdp : deep≤11) : ∀ k,k≤5→ExOK (5 - k) deep (fun z=>expr z (one z d) k):=by
 intro k
 induction k with
 | zero=>exact fun _=>expr_base deep d hO
 | succ k ih=>
  intro hk
  have hlv : levels[5 - (k + 1)]?=some (levels.getD (4 - k) []):=by
   rw [show 5 - (k + 1)=4 - k by omega]
   have : 4 - k < levels.length:=by show 4 - k < 5; omega
   simp [this]
  have hS:ExOK (5 - (k + 1) + 1) deep (fun z=>expr z (one z d) k):=by rw [show 5 - (k + 1) + 1=5 - k by omega]; exact ih (by omega)
  exact expr_step (5 - (k + 1)) deep (by omega) (fun z=>expr z (one z d) k) (fun z=>expr_mono (hmono z) k) hS _ hlv hdp
end Go.Proofs.YtojkkgghndeimaaGreatDoor
namespace Go.Mq.Tree
open Go Go.RowKit Go.Mq
structure Framed (Q:World→(Nat→Prop)→Prop):Prop where
 mono : ∀ {w:World} {F G:Nat→Prop},(∀ x,F x→G x)→Q w F→Q w G
 kept : ∀ {S:List Nat} {w w':World} {F:Nat→Prop},Chg S w w'→(∀ x∈S,¬ F x)→Q w F→Q w' F
def Off (w wr:World) (l:Value):Nat→Prop:=fun b=>w.heap.size≤b∧b < wr.heap.size∧b∉blk l
section
variable {Q:World→(Nat→Prop)→Prop} {w wr w2 w3 w':World} {l l':Value} {o:Obj}
theorem Framed.call (hQ:Framed Q) {bp:Nat} (h:Q wr (Off w wr l)) (hc:Chg [bp] wr w2) (hbp : bp < w.heap.size):Q w2 (Off w w2 l):=
 hQ.mono (fun x hx=>⟨hx.1,by have:=hc.size; have:=hx.2.1; omega,hx.2.2⟩) (hQ.kept hc (fun x hx hn=>by simp at hx; have:=hn.1; omega) h)
theorem Framed.fresh (hQ:Framed Q) (h:Q w2 (New w3 w2)) (hl : ∀ g∈blk l,g < w3.heap.size) (hs : w.heap.size≤w3.heap.size):Q w2 (Off w w2 l):=
 hQ.mono (fun x hx=>⟨Nat.le_trans hs hx.1,hx.2,fun hm=>by have:=hl x hm; have:=hx.1; omega⟩) h
theorem Framed.app (hQ:Framed Q) (h:Q w2 (Off w w2 l)) (hch:Chg (blk l) (w2.alloc o) w') (hm:Moved (w2.alloc o) l l'):Q w' (Off w w' l'):=by
 refine hQ.mono (fun x hx=>⟨hx.1,by have h1 : w2.heap.size≤(w2.alloc o).heap.size:=(by simp); have:=hch.size; have:=hx.2.1; omega,fun hm'=>?_⟩) (hQ.kept (((Chg.refl [] w2).alloc o).weak.then hch) (fun x hx hn=>hn.2.2 hx) h)
 rcases hm x hm' with h1 | h1
 ·exact hx.2.2 h1
 ·have:=hx.2.1; simp at h1; omega
theorem Framed.done (hQ:Framed Q) (h:Q wr (Off w wr l)):Q wr (New w wr):=hQ.mono (fun _ hx=>⟨hx.1,hx.2.1⟩) h
end
theorem framed_E (e:E) (us:List Value):Framed (fun w F=>EAt w F e us):=⟨fun hF h=>h.mono hF,fun hc hS h=>h.kept hc hS⟩
theorem framed_Es (l:List E) (us:List Value):Framed (fun w F=>EsAt w F l us):=⟨fun hF h=>h.mono hF,fun hc hS h=>h.kept hc hS⟩
theorem framed_S (s:S) (cs:List Value):Framed (fun w F=>SAt w F s cs):=⟨fun hF h=>h.mono hF,fun hc hS h=>h.kept hc hS⟩
theorem framed_Prs (l:List Proc) (cs:List Value):Framed (fun w F=>PrsAt w F l cs):=⟨fun hF h=>h.mono hF,fun hc hS h=>h.kept hc hS⟩
def ArgsAt (w:World) (F:Nat→Prop) (l:List E) (v:Value):Prop:=∃ a c vs,v = .slice a vs.length c∧vs.length≤c∧Row w F a vs∧EsAt w F l vs
theorem argsL_mono {z:Nat} {ex:Ps E} (hs:Eats ex) : ∀ f first l,Mono (argsL z ex f first l):=by
 intro f
 induction f with
 | zero=>intro first l ts a r h; cases h
 | succ f ih=>
  intro first l ts a r h
  rw [argsL] at h
  cases h1 : see [41] ts with
  | true=>rw [h1,if_pos rfl] at h; cases h; simp
  | false=>
   rw [h1,if_neg (by simp)] at h
   split at h
   ·cases h
   ·split at h
    ·cases h
    ·rename_i x r2 hx
     have g1:=hs _ _ _ hx
     have g2:=ih _ _ _ _ _ h
     have g3 : (if first=true then ts else ts.tail).length≤ts.length:=by split <;> simp
     omega
end Go.Mq.Tree
namespace Go.Proofs.YtojkkgghndeimaaGreatDoor
open Go Go.RowKit Go.Mq Go.Mq.Tree
set_option maxRecDepth 100000
set_option maxHeartbeats 4000000
theorem infoPtr : (Tryz.prog.info? 136).map (fun i=>(i.zero,i.size,i.bytes))=some (some (.pointer none),1,8):=by kernel_rfl
theorem ex_next {deep:Nat} {ex:Nat→Ps E} (h:ExOK 0 (deep + 1) ex) : ∀ (w:World) (B bp bt z:Nat) (ts:List Tok),Par w B bp bt z ts→Calls Tryz.prog 197 #[ptr bp,.int .i64 0,.int .i64 ((deep:Int) + 1)] w (Ended w B bp bt z (ex z ts) (EV w)):=fun w B bp bt z ts hp=>by
 have:=h w B bp bt z ts hp
 simpa using this
theorem wrap_next {deep:Nat} (h : deep≤11):IntKind.i64.wrap ((deep:Int) + 1)=(deep:Int) + 1:=by
 simp only [IntKind.wrap,IntKind.bits,IntKind.signed]; simp; omega
theorem args_any (deep:Nat) (hdp : deep≤11) (ex:Nat→Ps E) (hE:ExOK 0 (deep + 1) ex) (heats : ∀ z,Eats (ex z)) (w:World) (B bp bt z:Nat) (ts:List Tok) (h:Par w B bp bt z ts) (hsee : see [40] ts=true) :
  Calls Tryz.prog 247 #[ptr bp,.int .i64 deep] w (Ended w B bp bt z (argsL z (ex z) (ts.length + 1) true [] ts.tail) (fun w' l v=>ArgsAt w' (New w w') l v)):=by
 have HE:=Lib.hid (ex_next hE)
 have H:=Lib.hid h
 have HMU:=Lib.hid (must_any [40] w B bp bt z ts h)
 rw [must,hsee,if_pos rfl] at HMU
 have hB:=h.laid.le
 have hbp:=h.bp_lt
 have hbt:=h.bt_lt
 have hwr:=wrap_next hdp
 have hst:=see_tail hsee
 have hfew:=h.few
 have HM:=Lib.hid (heats z)
 clear h hE hsee heats
 go_enter Tryz.func247,Tryz.ntmps247
 go_wp2_with fail
 refine HMU.out.mono ?_; rintro _ w1 ⟨hc1,_,rfl,rfl,hp1⟩
 have HC1:=Lib.hid hc1; have HP1:=Lib.hid hp1
 clear hc1 hp1
 go_wp2_with fail
 go_loopw [5,6] (fun l m wr=>∃ (f:Nat) (b:Bool) (acc:List E) (vs:List Value) (ts':List Tok),m = .bool b∧argsL z (ex z) (ts.length + 1) true [] ts.tail=argsL z (ex z) f b acc ts'∧ts'.length < f∧acc.length + ts'.length≤600 ∧
   Par wr B bp bt z ts'∧wr.ownsRow 0 136 1 l acc.length vs∧EsAt wr (Off w wr l) acc vs∧From w.heap.size l∧Chg [bp] w wr) (fun _ _ wr=>cntOf wr bp)
 case atStart=>exact ⟨ts.length + 1,true,[],[],ts.tail,rfl,rfl,by omega,by simp; omega,HP1.out,World.ownsRow_nil _ _ _ _,rfl,From.nil _,HC1.out⟩
 case round=>
  obtain ⟨f,b,acc,vs,ts',rfl,hr,hf,hlen,hp,ho,hes,hF,hC⟩:=hrel
  have HR:=Lib.hid hr; have HP:=Lib.hid hp; have HO:=Lib.hid ho; have HES:=Lib.hid hes; have HF:=Lib.hid hF; have HC:=Lib.hid hC
  obtain ⟨sa,sc,hs⟩:=slice_of_owns ho
  clear hr hp ho hes hF hC
  subst hs
  obtain ⟨f,rfl⟩ : ∃ f',f=f' + 1:=⟨f - 1,by omega⟩
  have HT:=Lib.hid (take_any [41] wr B bp bt z ts' HP.out)
  cases hsc : see [41] ts' with
  | true=>
   have HRR:=Lib.hid (show argsL z (ex z) (ts.length + 1) true [] ts.tail = .ok acc ts'.tail by rw [HR.out,argsL,hsc,if_pos rfl])
   have HI:=Lib.hid hsc
   clear hsc
   go_wp2_with fail
   refine HT.out.mono ?_; rintro _ w2 ⟨rfl,hp2,hc2,_⟩
   rw [HI.out]
   rw [skip,HI.out,if_pos rfl] at hp2
   have HP2:=Lib.hid hp2; have HC2:=Lib.hid hc2
   clear hp2 hc2
   go_wp2_with fail
   go_ret
   rw [HRR.out]
   refine ⟨HC.out.then HC2.out,_,rfl,?_,HP2.out⟩
   have ho2:=owns_kept HO.out HC2.out (fun g hg hm=>by have:=HF.out g hg; simp at hm; omega)
   obtain ⟨a,c,he,hac,hrow⟩:=Row.of_owns ho2 (new_owns ho2 HF.out)
   have hln:=HES.out.len
   exact ⟨a,c,vs,by rw [hln]; exact he,by omega,hrow,(framed_Es acc vs).done ((framed_Es acc vs).call HES.out HC2.out hbp)⟩
  | false=>
   have HI:=Lib.hid hsc
   cases b with
   | true=>
    have hlt : ts'.length < f + 1:=hf
    have HRR:Hid (∀ q,ex z ts'=q→argsL z (ex z) (ts.length + 1) true [] ts.tail=match q with | .bad e p=>.bad e p | .ok x r=>argsL z (ex z) f false (acc ++ [x]) r):=Lib.hid (fun q hq=>by rw [HR.out,argsL,hsc,if_neg (by simp),if_neg (by simp),if_pos rfl,hq]; cases q <;> rfl)
    clear hsc
    have HEX:=Lib.hid (HE.out wr B bp bt z ts' HP.out)
    cases hx : ex z (ts') with
    | bad en p=>
     have HX:=Lib.hid hx
     rw [HX.out] at HEX
     clear hx
     go_wp2_with fail
     refine HT.out.mono ?_; rintro _ w2 ⟨rfl,_,_,hw⟩
     rw [HI.out]
     have hw':=(hw HI.out).symm
     subst hw'
     clear hw
     go_wp2_with fail
     refine HEX.out.mono ?_; intro e w4 he
     have HEE:=Lib.hid he
     obtain ⟨b,rfl⟩:=he.thrown
     clear he
     go_wp2_with fail
     refine ⟨rfl,?_⟩
     rw [HRR.out _ HX.out]
     exact HEE.out.relay (HC.out)
    | ok x r=>
     have HX:=Lib.hid hx
     have hxl:=HM.out _ _ _ hx
     rw [HX.out] at HEX
     clear hx
     go_wp2_with fail
     refine HT.out.mono ?_; rintro _ w2 ⟨rfl,_,_,hw⟩
     rw [HI.out]
     have hw':=(hw HI.out).symm
     subst hw'
     clear hw
     go_wp2_with fail
     refine HEX.out.mono ?_; rintro e w4 ⟨hc4,v4,rfl,hv4,hp4⟩
     obtain ⟨b4,rfl⟩:=hv4.ptr
     have HC4:=Lib.hid hc4; have HV4:=Lib.hid hv4; have HP4:=Lib.hid hp4
     have ho4:=owns_kept HO.out ((Chg.refl [bp] wr).then hc4) (fun g hg hm=>by have:=HF.out g hg; simp at hm; omega)
     have ho5:=owns_kept ho4 ((Chg.refl [] w4).alloc (.cells #[ptr b4] 136)) (by simp)
     have HO4:=Lib.hid ho5
     clear hc4 hv4 hp4 ho4 ho5
     go_wp2_with (at_builtin; go_must (refine wpL_append rfl _ _ 153 rfl 136 _ 1 8 infoPtr Tryz.underlying153 rfl (by decide) _ _ _ rfl HO4.out ⟨w4.heap.size,0,none⟩ 1 1 [_] rfl rfl (cell_new1 _ _ _) (by simp [Value.oneCell']) ?_ ?_ ?_))
     ·omega
     ·unfold maxLen; omega
     ·intro v' w' hown' hch' hmv'
      have HO':=Lib.hid hown'; clear hown'
      obtain ⟨hp5,hc5,hf5⟩:=grow_step hB hbp hbt (HC.out) HC4.out HP4.out HF.out hch' hmv'
      have hlw : ∀ g∈blk _,g < wr.heap.size:=fun g hg=>Nat.lt_of_lt_of_le (owns_lt HO.out g hg) (Chg.refl [bp] wr).size
      have hes4:=(framed_Es acc vs).call HES.out ((Chg.refl [bp] wr).then HC4.out) hbp
      have hx4:=(framed_E x [ptr b4]).fresh HV4.out hlw (HC.out).size
      have hes5:=(framed_Es acc vs).app hes4 hch' hmv'
      have hx5:=(framed_E x [ptr b4]).app hx4 hch' hmv'
      have HES5:=Lib.hid (EsAt.snoc hes5 hx5)
      have HP5:=Lib.hid hp5; have HC5:=Lib.hid hc5; have HF5:=Lib.hid hf5
      clear hch' hmv' hp5 hc5 hf5 hes4 hx4 hes5 hx5 hlw
      go_wp2_with fail
      refine ⟨⟨f,false,acc ++ [x],vs ++ [ptr b4],r,rfl,HRR.out _ HX.out,by omega,by simp; omega,HP5.out,by simpa using HO'.out,HES5.out,HF5.out,HC5.out⟩,?_⟩
      rw [HP5.out.cnt,HP.out.cnt]
      omega
   | false=>
    have HMU2:=Lib.hid (must_any [44] wr B bp bt z ts' HP.out)
    cases hcm : see [44] ts' with
    | false=>
     have HRR:=Lib.hid (show argsL z (ex z) (ts.length + 1) true [] ts.tail = .bad 3 (hd z ts') by rw [HR.out,argsL,hsc,if_neg (by simp),if_pos ⟨rfl,hcm⟩])
     rw [must,hcm,if_neg (by simp)] at HMU2
     clear hsc hcm
     go_wp2_with fail
     refine HT.out.mono ?_; rintro _ w2 ⟨rfl,_,_,hw⟩
     rw [HI.out]
     have hw':=(hw HI.out).symm
     subst hw'
     clear hw
     go_wp2_with fail
     refine HMU2.out.mono ?_; intro e w4 he
     have HEE:=Lib.hid he
     obtain ⟨b,rfl⟩:=he.thrown
     clear he
     go_wp2_with fail
     refine ⟨rfl,?_⟩
     rw [HRR.out]
     exact HEE.out.relay HC.out
    | true=>
     have hct:=see_tail hcm
     have HRR:Hid (∀ q,ex z ts'.tail=q→argsL z (ex z) (ts.length + 1) true [] ts.tail=match q with | .bad e p=>.bad e p | .ok x r=>argsL z (ex z) f false (acc ++ [x]) r):=Lib.hid (fun q hq=>by rw [HR.out,argsL,hsc,if_neg (by simp),if_neg (by rw [hcm]; simp),if_neg (by simp),hq]; cases q <;> rfl)
     rw [must,hcm,if_pos rfl] at HMU2
     clear hsc hcm
     go_wp2_with fail
     refine HT.out.mono ?_; rintro _ w2 ⟨rfl,_,_,hw⟩
     rw [HI.out]
     have hw':=(hw HI.out).symm
     subst hw'
     clear hw
     go_wp2_with fail
     refine HMU2.out.mono ?_; rintro _ w3 ⟨hc3,_,rfl,rfl,hp3⟩
     have HC3:=Lib.hid hc3; have HP3:=Lib.hid hp3
     clear hc3 hp3
     have HEX:=Lib.hid (HE.out w3 B bp bt z ts'.tail HP3.out)
     cases hx : ex z (ts'.tail) with
     | bad en p=>
      have HX:=Lib.hid hx
      rw [HX.out] at HEX
      clear hx
      go_wp2_with fail
      refine HEX.out.mono ?_; intro e w4 he
      have HEE:=Lib.hid he
      obtain ⟨b,rfl⟩:=he.thrown
      clear he
      go_wp2_with fail
      refine ⟨rfl,?_⟩
      rw [HRR.out _ HX.out]
      exact HEE.out.relay (HC.out.then HC3.out)
     | ok x r=>
      have HX:=Lib.hid hx
      have hxl:=HM.out _ _ _ hx
      rw [HX.out] at HEX
      clear hx
      go_wp2_with fail
      refine HEX.out.mono ?_; rintro e w4 ⟨hc4,v4,rfl,hv4,hp4⟩
      obtain ⟨b4,rfl⟩:=hv4.ptr
      have HC4:=Lib.hid hc4; have HV4:=Lib.hid hv4; have HP4:=Lib.hid hp4
      have ho4:=owns_kept HO.out ((HC3.out).then hc4) (fun g hg hm=>by have:=HF.out g hg; simp at hm; omega)
      have ho5:=owns_kept ho4 ((Chg.refl [] w4).alloc (.cells #[ptr b4] 136)) (by simp)
      have HO4:=Lib.hid ho5
      clear hc4 hv4 hp4 ho4 ho5
      go_wp2_with (at_builtin; go_must (refine wpL_append rfl _ _ 153 rfl 136 _ 1 8 infoPtr Tryz.underlying153 rfl (by decide) _ _ _ rfl HO4.out ⟨w4.heap.size,0,none⟩ 1 1 [_] rfl rfl (cell_new1 _ _ _) (by simp [Value.oneCell']) ?_ ?_ ?_))
      ·omega
      ·unfold maxLen; omega
      ·intro v' w' hown' hch' hmv'
       have HO':=Lib.hid hown'; clear hown'
       obtain ⟨hp5,hc5,hf5⟩:=grow_step hB hbp hbt (HC.out.then HC3.out) HC4.out HP4.out HF.out hch' hmv'
       have hlw : ∀ g∈blk _,g < w3.heap.size:=fun g hg=>Nat.lt_of_lt_of_le (owns_lt HO.out g hg) HC3.out.size
       have hes4:=(framed_Es acc vs).call HES.out ((HC3.out).then HC4.out) hbp
       have hx4:=(framed_E x [ptr b4]).fresh HV4.out hlw (HC.out.then HC3.out).size
       have hes5:=(framed_Es acc vs).app hes4 hch' hmv'
       have hx5:=(framed_E x [ptr b4]).app hx4 hch' hmv'
       have HES5:=Lib.hid (EsAt.snoc hes5 hx5)
       have HP5:=Lib.hid hp5; have HC5:=Lib.hid hc5; have HF5:=Lib.hid hf5
       clear hch' hmv' hp5 hc5 hf5 hes4 hx4 hes5 hx5 hlw
       go_wp2_with fail
       refine ⟨⟨f,false,acc ++ [x],vs ++ [ptr b4],r,rfl,HRR.out _ HX.out,by omega,by simp; omega,HP5.out,by simpa using HO'.out,HES5.out,HF5.out,HC5.out⟩,?_⟩
       rw [HP5.out.cnt,HP.out.cnt]
       omega
end Go.Proofs.YtojkkgghndeimaaGreatDoor
namespace Go.Mq.Tree
open Go Go.RowKit Go.Mq
def namedR (z:Nat) (ex:Ps E) (p:Nat) (q:List UInt8 × List UInt8):Ps E:=fun r=>if see [91] r then match ex r.tail with
  | .bad e p=>.bad e p
  | .ok i r2=>match must z [93] r2 with
   | .bad e p=>.bad e p
   | .ok _ r3=>.ok (.item p q.1 q.2 i) r3
 else if see [40] r then match argsL z ex (r.length + 1) true [] r.tail with
  | .bad e p=>.bad e p
  | .ok l r2=>.ok (.app p q.1 q.2 (E.ofList l)) r2
 else .ok (.var p q.1 q.2) r
theorem named_eq (z:Nat) (ex:Ps E) (ts:List Tok) : named z ex ts=match qual z ts with
  | .bad e p=>.bad e p
  | .ok q r=>namedR z ex (hd z ts) q r:=rfl
theorem qual_eats (z:Nat):Eats (qual z):=by
 intro ts a r h
 rw [qual] at h
 cases h1 : name z ts with
 | bad e p=>rw [h1] at h; cases h
 | ok n r1=>
  rw [h1] at h
  have g1:=name_len h1
  simp only at h
  split at h
  ·rename_i hs
   have g2:=see_tail hs
   cases h2 : name z r1.tail with
   | bad e p=>rw [h2] at h; cases h
   | ok n2 r2=>
    rw [h2] at h
    have g3:=name_len h2
    cases h
    omega
  ·cases h; omega
theorem must_len {z:Nat} {s:List UInt8} {ts r:List Tok} {u:Unit} (h : must z s ts = .ok u r) : r.length + 1=ts.length:=by
 rw [must] at h
 split at h
 ·rename_i hs; cases h; exact see_tail hs
 ·cases h
theorem namedR_mono {z:Nat} {ex:Ps E} (he:Eats ex) (p:Nat) (q:List UInt8 × List UInt8):Mono (namedR z ex p q):=by
 intro ts a r h
 rw [namedR] at h
 split at h
 ·cases h1 : ex ts.tail with
  | bad e p=>rw [h1] at h; cases h
  | ok i r2=>
   rw [h1] at h
   have g1:=he _ _ _ h1
   cases h2 : must z [93] r2 with
   | bad e p=>simp only [h2] at h; cases h
   | ok u r3=>
    simp only [h2] at h
    have g2:=must_len h2
    cases h
    simp at g1
    omega
 ·split at h
  ·cases h1 : argsL z ex (ts.length + 1) true [] ts.tail with
   | bad e p=>rw [h1] at h; cases h
   | ok l r2=>
    rw [h1] at h
    have g1:=argsL_mono he _ _ _ _ _ _ h1
    cases h
    simp at g1
    omega
  ·cases h; exact Nat.le_refl _
theorem named_eats {z:Nat} {ex:Ps E} (he:Eats ex):Eats (named z ex):=by
 intro ts a r h
 rw [named_eq] at h
 cases h1 : qual z ts with
 | bad e p=>rw [h1] at h; cases h
 | ok q r1=>
  rw [h1] at h
  have g1:=qual_eats z _ _ _ h1
  have g2:=namedR_mono he _ _ _ _ _ h
  omega
def Off6 (w wr:World):Nat→Prop:=fun b=>w.heap.size≤b∧b < wr.heap.size∧b≠w.heap.size
end Go.Mq.Tree
namespace Go.Proofs.YtojkkgghndeimaaGreatDoor
open Go Go.RowKit Go.Mq Go.Mq.Tree
set_option maxRecDepth 100000
set_option maxHeartbeats 8000000
theorem par_at {w:World} {B bp bt z:Nat} {ts:List Tok} (h:Par w B bp bt z ts) : ∃ off c n,w.cell? ⟨bp,0,none⟩=some (.slice (some ⟨bt,off,none⟩) (n + 1) c)∧w.cell? ⟨bt,off + 2,none⟩=some (.int .i64 (hd z ts)):=by
 cases ts with
 | nil=>obtain ⟨off,c,c0,_,c2,_⟩:=par_nil h; exact ⟨off,c,0,c0,c2⟩
 | cons t r=>obtain ⟨off,c,_,c0,_,_,c2,_⟩:=par_cons h; exact ⟨off,c,r.length + 1,c0,c2⟩
theorem named_any (deep:Nat) (hdp : deep≤11) (ex:Nat→Ps E) (hE:ExOK 0 (deep + 1) ex) (heats : ∀ z,Eats (ex z)) (w:World) (B bp bt z:Nat) (ts:List Tok) (h:Par w B bp bt z ts) :
  Calls Tryz.prog 228 #[ptr bp,.int .i64 deep] w (Ended w B bp bt z (named z (ex z) ts) (EV w)):=by
 have HE:=Lib.hid (ex_next hE)
 have H:=Lib.hid h
 obtain ⟨off,c,nn,c0,c2⟩:=par_at h
 have hB:=h.laid.le
 have hbp:=h.bp_lt
 have hbt:=h.bt_lt
 have hwr:=wrap_next hdp
 have hxb : w.heap.size≠bp:=by omega
 have hxt : w.heap.size≠bt:=by omega
 clear h
 go_enter Tryz.func228,Tryz.ntmps228
 go_wp2_with fail
 have hc1:Chg [bp] w (w.alloc (.cells #[.int .i64 2,.int .i64 (hd z ts),.int .i64 0,str [],str [],str [],nilp,nilp,nils] 155)):=(Chg.refl _ _).alloc _
 have hp1:Par (w.alloc (.cells #[.int .i64 2,.int .i64 (hd z ts),.int .i64 0,str [],str [],str [],nilp,nilp,nils] 155)) B bp bt z ts:=H.out.kept ((Chg.refl [] w).alloc _) (by simp) (by simp) (by simp)
 have hb1:=Blk.new w #[.int .i64 2,.int .i64 (hd z ts),.int .i64 0,str [],str [],str [],nilp,nilp,nils] 155
 have HN1:=Lib.hid (name_any _ B bp bt z ts hp1)
 have HC1:=Lib.hid hc1; have HB1:=Lib.hid hb1
 clear hc1 hp1 hb1
 cases hn : name z ts with
 | bad en p=>
  have HRR:=Lib.hid (show named z (ex z) ts = .bad en p by rw [named_eq,qual,hn])
  rw [hn] at HN1
  clear hn
  refine HN1.out.mono ?_; intro e w6 he
  have HEE:=Lib.hid he
  obtain ⟨b,rfl⟩:=he.thrown
  clear he
  go_wp2_with fail
  refine ⟨rfl,?_⟩
  rw [HRR.out]
  exact HEE.out.relay (HC1.out)
 | ok n r=>
  have HQN:=Lib.hid hn
  rw [hn] at HN1
  clear hn
  refine HN1.out.mono ?_; rintro e w2 ⟨hc2,_,rfl,rfl,hp2⟩
  have hb2:=HB1.out.kept hc2 (by simpa using hxb)
  have f4:=hb2.frozen 4; have e4:=hb2.cell 4 _ rfl
  have hb3:=hb2.set 4 (str n)
  have hc3:=Chg.set1 w2 w.heap.size 4 (str n)
  have hwc3:Chg [bp] w (w2.setCell ⟨w.heap.size,4,none⟩ (str n)):=(HC1.out.then hc2).trans hc3 (fun x hx=>.inr (by simp at hx; omega))
  have hp3:=hp2.kept hc3 (fun x hx=>by simp at hx; omega) (by simpa using Ne.symm hxb) (by simp; omega)
  have HB3:=Lib.hid hb3; have HWC3:=Lib.hid hwc3; have HP3:=Lib.hid hp3
  clear hc2 hp2 hb2 hb3 hc3 hwc3 hp3
  go_wp2_with fail
  generalize w2.setCell ⟨w.heap.size,4,none⟩ (str n)=w3 at *
  have HT4:=Lib.hid (take_any [46] w3 B bp bt z r HP3.out)
  cases h4 : see [46] r
  case' false=>
   have HI4:=Lib.hid h4
   obtain ⟨q,hq⟩ : ∃ q:List UInt8 × List UInt8,q=([],n):=⟨_,rfl⟩
   have HN:Hid (named z (ex z) ts=namedR z (ex z) (hd z ts) q r):=Lib.hid (by rw [named_eq,qual,HQN.out]; simp only [h4,hq]; rfl)
   clear h4
   refine HT4.out.mono ?_; rintro _ w4 ⟨rfl,_,_,hw⟩
   rw [HI4.out]
   have hw':=(hw HI4.out).symm; subst hw'; clear hw
   have HQ:Hid (Blk w3 w.heap.size #[.int .i64 2,.int .i64 (hd z ts),.int .i64 0,str q.1,str q.2,str [],nilp,nilp,nils] 155):=Lib.hid (by rw [hq]; simpa using HB3.out)
   have hb5:=Lib.hid HQ.out.lt
   clear hq
   have HPQ:=HP3; have HCQ:=HWC3
   obtain ⟨wq,rfl⟩ : ∃ x,x=w3:=⟨_,rfl⟩
   obtain ⟨r',rfl⟩ : ∃ x,x=r:=⟨_,rfl⟩
  case' true=>
   have HI4:=Lib.hid h4
   have h4t:=see_tail h4
   clear h4
   refine HT4.out.mono ?_; rintro _ w4 ⟨rfl,hp4,hc4,_⟩
   rw [HI4.out]
   rw [skip,HI4.out,if_pos rfl] at hp4
   have hb4:=(HB3.out.kept hc4 (by simpa using hxb)).kept ((Chg.refl [] w4).drew) (by simp)
   have e4d : w4.drew.cell? ⟨w.heap.size,4,none⟩=some (str n):=hb4.cell 4 _ rfl
   have HB4:=Lib.hid hb4
   have hwc4:Chg [bp] w w4.drew:=(HWC3.out.then hc4).drew
   have HWC4:=Lib.hid hwc4
   have HN4:=Lib.hid (name_any w4.drew B bp bt z r.tail (hp4.kept ((Chg.refl [] w4).drew) (by simp) (by simp) (by simp)))
   have hag : ∀ w,(isAgg 9).run Tryz.prog w = .ok false w:=Tryz.isAgg9
   clear hp4 hc4 hb4 hwc4
   cases hn2 : name z r.tail
   case' bad en p=>
    have HRR:=Lib.hid (show named z (ex z) ts = .bad en p by rw [named_eq,qual,HQN.out]; simp only [HI4.out,if_true,hn2])
    rw [hn2] at HN4
    clear hn2
    go_wp2_with fail
    refine wp_region_dead 7 [true,true,true,true,true,true,true] rfl (by kernel_rfl) (by kernel_rfl) rfl ?_
    repeat ((with_reducible show wpX _ _ _ _ _ _ _ _);(first | refine wpX_nil ?_ | refine wpX_skip rfl ?_ | refine wpX_mv rfl rfl (by kernel_rfl) (fun _ _=>?_) | refine wpX_ldD rfl rfl rfl (by exact ⟨_,_,e4d⟩) (fun _ _=>?_));go_wp2_with fail)
    refine HN4.out.mono ?_; intro e w6 he
    have HEE:=Lib.hid he
    obtain ⟨b,rfl⟩:=he.thrown
    clear he
    intro a' ha
    refine ⟨ha,?_⟩
    rw [HRR.out]
    exact HEE.out.relay HWC4.out
   case' ok n2 r2=>
    have HN:Hid (named z (ex z) ts=namedR z (ex z) (hd z ts) (n,n2) r2):=Lib.hid (by rw [named_eq,qual,HQN.out]; simp only [HI4.out,if_true,hn2])
    rw [hn2] at HN4
    clear hn2
    go_wp2_with fail
    refine wp_region_XT (fun w'=>Chg [bp,w.heap.size] w4.drew w'∧w'.cell? ⟨w.heap.size,4,none⟩=some (str n)) rfl (by kernel_rfl) rfl ⟨Chg.refl _ _,e4d⟩ ?_
    repeat ((with_reducible show wpX _ _ _ _ _ _ _ _);(first | refine wpX_mv rfl rfl (by kernel_rfl) (fun _ _=>?_));go_wp2_with fail)
    refine wpX_ld1 rfl rfl rfl (str n) hag (fun _ h=>h.2) ?_
    repeat ((with_reducible show wpX _ _ _ _ _ _ _ _);(first | refine wpX_mv rfl rfl (by kernel_rfl) (fun _ _=>?_));go_wp2_with fail)
    refine wpX_ef' rfl rfl rfl (fun _ _=>?_)
    go_wp2_with fail
    refine HN4.out.mono ?_; rintro e w6 ⟨hc6,_,rfl,rfl,hp6⟩
    have hs4 : w.heap.size < w4.drew.heap.size:=HB4.out.lt
    have hb6:=HB4.out.kept hc6 (by simpa using hxb)
    have f63:=hb6.frozen 3; have f64:=hb6.frozen 4; have e63:=hb6.cell 3 _ rfl; have e64:=hb6.cell 4 _ rfl
    have HC6:=Lib.hid hc6; have HP6:=Lib.hid hp6; have HB6:=Lib.hid hb6
    clear hc6 hp6 hb6
    go_wp2_with fail
    refine And.intro ⟨HC6.out.mono (fun x hx=>.inl (by simp at hx; simp [hx])),e64⟩ ?_
    repeat ((with_reducible show wpX _ _ _ _ _ _ _ _);(first | refine wpX_mv rfl rfl (by kernel_rfl) (fun _ _=>?_));go_wp2_with fail)
    refine wpX_ef' rfl rfl rfl (fun _ _=>?_)
    go_wp2_with fail
    have hb7:=HB6.out.set 3 (str n)
    have f74:=hb7.frozen 4; have e74:=hb7.cell 4 _ rfl
    have HB7:=Lib.hid hb7
    clear hb7
    refine And.intro ⟨(HC6.out.mono (fun x hx=>.inl (by simp at hx; simp [hx]))).setCell _ (.inl (by simp)) _,e74⟩ ?_
    repeat ((with_reducible show wpX _ _ _ _ _ _ _ _);(first | refine wpX_mv rfl rfl (by kernel_rfl) (fun _ _=>?_));go_wp2_with fail)
    refine stepX_ef rfl rfl (fun _ _=>?_)
    go_wp2_with fail
    have hb8:=HB7.out.set 4 (str n2)
    have hc8:Chg [w.heap.size] w6 ((w6.setCell ⟨w.heap.size,3,none⟩ (str n)).setCell ⟨w.heap.size,4,none⟩ (str n2)):=(Chg.set1 _ _ _ _).then (Chg.set1 _ _ _ _)
    have hwc8:Chg [bp] w ((w6.setCell ⟨w.heap.size,3,none⟩ (str n)).setCell ⟨w.heap.size,4,none⟩ (str n2)):=(HWC4.out.then HC6.out).trans hc8 (fun x hx=>.inr (by simp at hx; omega))
    have hp8:=HP6.out.kept hc8 (fun x hx=>by simp at hx; omega) (by simpa using Ne.symm hxb) (by simp; omega)
    obtain ⟨q,hq⟩ : ∃ q:List UInt8 × List UInt8,q=(n,n2):=⟨_,rfl⟩
    have HQ:Hid (Blk ((w6.setCell ⟨w.heap.size,3,none⟩ (str n)).setCell ⟨w.heap.size,4,none⟩ (str n2)) w.heap.size #[.int .i64 2,.int .i64 (hd z ts),.int .i64 0,str q.1,str q.2,str [],nilp,nilp,nils] 155):=Lib.hid (by rw [hq]; simpa using hb8)
    rw [← hq] at HN
    have HPQ:=Lib.hid hp8; have HCQ:=Lib.hid hwc8
    have hb5:=Lib.hid HQ.out.lt
    clear hb8 hc8 hwc8 hp8 f63 f64 e63 e64 f74 e74 hq HB6 HB7
    generalize (w6.setCell ⟨w.heap.size,3,none⟩ (str n)).setCell ⟨w.heap.size,4,none⟩ (str n2)=wq at *
    obtain ⟨r',rfl⟩ : ∃ x,x=r2:=⟨_,rfl⟩
  all_goals
   have HT5:=Lib.hid (take_any [91] wq B bp bt z r' HPQ.out)
   cases h5 : see [91] r' with
   | true=>
    have HI5:=Lib.hid h5
    have h5t:=see_tail h5
    clear h5
    first | refine HT5.out.mono ?_ | (go_wp2_with fail; refine HT5.out.mono ?_)
    rintro _ w5 ⟨rfl,hp5,hc5,_⟩
    rw [HI5.out]
    rw [skip,HI5.out,if_pos rfl] at hp5
    have HP5:=Lib.hid hp5; have HC5:=Lib.hid hc5
    clear hp5 hc5
    have HEX:=Lib.hid (HE.out w5 B bp bt z r'.tail HP5.out)
    go_wp2_with fail
    refine HEX.out.mono ?_; intro e w6 he
    rcases he.part with ⟨en,p,b,rfl,hx,HEE⟩ | ⟨i,r6,hx,he⟩
    ·go_wp2_with fail; exact ⟨rfl,by rw [show named z (ex z) ts = .bad en p by rw [HN.out,namedR,if_pos HI5.out,hx.out]]; exact HEE.out.relay (HCQ.out.then HC5.out)⟩
    have HX:=hx
    obtain ⟨hc6,v6,rfl,hv6,hp6⟩:=he
    clear hx
    obtain ⟨b6,rfl⟩:=hv6.ptr
    have HC6:=Lib.hid hc6; have HV6:=Lib.hid hv6; have HP6:=Lib.hid hp6
    have hb6:=HQ.out.kept (HC5.out.then hc6) (by simpa using hxb)
    have f60:=hb6.frozen 0; have f66:=hb6.frozen 6; have e60:=hb6.cell 0 _ rfl; have e66:=hb6.cell 6 _ rfl
    have hb7:=(hb6.set 0 (.int .i64 3)).set 6 (ptr b6)
    have hc7:Chg [w.heap.size] w6 ((w6.setCell ⟨w.heap.size,0,none⟩ (.int .i64 3)).setCell ⟨w.heap.size,6,none⟩ (ptr b6)):=(Chg.set1 _ _ _ _).then (Chg.set1 _ _ _ _)
    have HB7:=Lib.hid hb7; have HC7:=Lib.hid hc7
    have hwc7:Chg [bp] w ((w6.setCell ⟨w.heap.size,0,none⟩ (.int .i64 3)).setCell ⟨w.heap.size,6,none⟩ (ptr b6)):=((HCQ.out.then HC5.out).then hc6).trans hc7 (fun x hx=>.inr (by simp at hx; omega))
    have HWC7:=Lib.hid hwc7
    have hp7:=HP6.out.kept hc7 (fun x hx=>by simp at hx; omega) (by simpa using Ne.symm hxb) (by simp; omega)
    have HMU:=Lib.hid (must_any [93] _ B bp bt z r6 hp7)
    have HS6:=Lib.hid (show w.heap.size≤w5.heap.size from (HCQ.out.then HC5.out).size)
    clear hc6 hv6 hp6 hb6 hb7 hc7 hwc7 hp7
    go_wp2_with fail
    cases h8 : see [93] r6 with
    | false=>
     have HRR:=Lib.hid (show named z (ex z) ts = .bad 3 (hd z r6) by rw [HN.out,namedR,if_pos HI5.out,HX.out]; simp [must,h8])
     rw [must,h8,if_neg (by simp)] at HMU
     clear h8
     refine HMU.out.mono ?_; intro e w8 he
     have HEE:=Lib.hid he
     obtain ⟨b,rfl⟩:=he.thrown
     clear he
     go_wp2_with fail
     refine ⟨rfl,?_⟩
     rw [HRR.out]
     exact HEE.out.relay (HWC7.out)
    | true=>
     have HRR:=Lib.hid (show named z (ex z) ts = .ok (.item (hd z ts) q.1 q.2 i) r6.tail by rw [HN.out,namedR,if_pos HI5.out,HX.out]; simp [must,h8])
     rw [must,h8,if_pos rfl] at HMU
     clear h8
     refine HMU.out.mono ?_; rintro e w8 ⟨hc8,_,rfl,rfl,hp8⟩
     have HC8:=Lib.hid hc8; have HP8:=Lib.hid hp8
     clear hc8 hp8
     go_wp2_with fail
     go_ret
     rw [HRR.out]
     refine ⟨HWC7.out.then HC8.out,_,rfl,?_,HP8.out⟩
     have hb8:=HB7.out.kept HC8.out (by simpa using hxb)
     have hi6:EAt w6 (Off6 w w6) i [ptr b6]:=HV6.out.mono fun x hx=>⟨Nat.le_trans HS6.out hx.1,hx.2,by have:=hx.1; have:=hb5.out; have:=HC5.out.size; omega⟩
     have hi7:=hi6.kept HC7.out (fun x hx hn=>by simp at hx; exact hn.2.2 hx)
     have hi8:=hi7.kept HC8.out (fun x hx hn=>by simp at hx; have:=hn.1; omega)
     have hsz : w6.heap.size≤w8.heap.size:=Nat.le_trans HC7.out.size HC8.out.size
     refine ⟨w.heap.size,ptr b6,rfl,⟨Nat.le_refl _,hb8.lt⟩,?_,hi8.mono fun x hx=>⟨hx.1,Nat.lt_of_lt_of_le hx.2.1 hsz⟩⟩
     simpa using hb8
   | false=>
    have HI5:=Lib.hid h5
    clear h5
    have HS5:=Lib.hid (see_any [40] wq B bp bt z r' HPQ.out)
    cases h6 : see [40] r' with
    | true=>
     have HI6:=Lib.hid h6
     have HAR:=Lib.hid (args_any deep hdp ex hE heats wq B bp bt z r' HPQ.out h6)
     clear h6
     cases hx : argsL z (ex z) (r'.length + 1) true [] r'.tail with
     | bad en p=>
      have HRR:=Lib.hid (show named z (ex z) ts = .bad en p by rw [HN.out,namedR,if_neg (by rw [HI5.out]; simp),if_pos HI6.out,hx])
      rw [hx] at HAR
      clear hx
      first | refine HT5.out.mono ?_ | (go_wp2_with fail; refine HT5.out.mono ?_)
      rintro _ w5 ⟨rfl,_,_,hw⟩
      rw [HI5.out]
      have hw':=(hw HI5.out).symm; subst hw'; clear hw
      go_wp2_with fail
      refine HS5.out.mono ?_; rintro _ w6 ⟨rfl,rfl⟩
      rw [HI6.out]
      go_wp2_with fail
      refine HAR.out.mono ?_; intro e w6 he
      have HEE:=Lib.hid he
      obtain ⟨b,rfl⟩:=he.thrown
      clear he
      go_wp2_with fail
      refine ⟨rfl,?_⟩
      rw [HRR.out]
      exact HEE.out.relay (HCQ.out)
     | ok l r6=>
      have HRR:=Lib.hid (show named z (ex z) ts = .ok (.app (hd z ts) q.1 q.2 (E.ofList l)) r6 by rw [HN.out,namedR,if_neg (by rw [HI5.out]; simp),if_pos HI6.out,hx])
      rw [hx] at HAR
      clear hx
      first | refine HT5.out.mono ?_ | (go_wp2_with fail; refine HT5.out.mono ?_)
      rintro _ w5 ⟨rfl,_,_,hw⟩
      rw [HI5.out]
      have hw':=(hw HI5.out).symm; subst hw'; clear hw
      go_wp2_with fail
      refine HS5.out.mono ?_; rintro _ w6 ⟨rfl,rfl⟩
      rw [HI6.out]
      go_wp2_with fail
      refine HAR.out.mono ?_; rintro e w6 ⟨hc6,v6,rfl,⟨a6,c6,vs6,rfl,hv1,hv2,hv3⟩,hp6⟩
      have HC6:=Lib.hid hc6; have HP6:=Lib.hid hp6; have HV6:=Lib.hid (And.intro hv1 (And.intro hv2 hv3))
      have hb6:=HQ.out.kept hc6 (by simpa using hxb)
      have f60:=hb6.frozen 0; have f68:=hb6.frozen 8; have e60:=hb6.cell 0 _ rfl; have e68:=hb6.cell 8 _ rfl
      have hb7:=(hb6.set 0 (.int .i64 6)).set 8 (.slice a6 vs6.length c6)
      have hc7:Chg [w.heap.size] w6 ((w6.setCell ⟨w.heap.size,0,none⟩ (.int .i64 6)).setCell ⟨w.heap.size,8,none⟩ (.slice a6 vs6.length c6)):=(Chg.set1 _ _ _ _).then (Chg.set1 _ _ _ _)
      have HB7:=Lib.hid hb7; have HC7:=Lib.hid hc7
      have HS6:=Lib.hid (show w.heap.size < _ from HQ.out.lt)
      clear hc6 hv1 hv2 hv3 hp6 hb6 hb7 hc7
      go_wp2_with fail
      go_ret
      rw [HRR.out]
      refine ⟨(HCQ.out.then HC6.out).trans HC7.out (fun x hx=>.inr (by simp at hx; omega)),_,rfl,?_,HP6.out.kept HC7.out (fun x hx=>by simp at hx; omega) (by simpa using Ne.symm hxb) (by simp; omega)⟩
      obtain ⟨hv1,hv2,hv3⟩:=HV6.out
      have hF : ∀ x,New _ w6 x→Off6 w w6 x:=fun x hx=>⟨Nat.le_trans HCQ.out.size hx.1,hx.2,by have:=hx.1; have:=HS6.out; omega⟩
      have hk : ∀ x∈[w.heap.size],¬ Off6 w w6 x:=fun x hx hn=>by simp at hx; exact hn.2.2 hx
      have hr7:=(hv2.mono hF).kept HC7.out hk
      have he7:=(EsAt.mono hF hv3).kept HC7.out hk
      have hG : ∀ x,Off6 w w6 x→New w _ x:=fun x hx=>⟨hx.1,Nat.lt_of_lt_of_le hx.2.1 HC7.out.size⟩
      refine ⟨w.heap.size,a6,c6,vs6,rfl,⟨Nat.le_refl _,HB7.out.lt⟩,?_,hv1,hr7.mono hG,(he7.mono hG).one⟩
      simpa using HB7.out
    | false=>
     have HI6:=Lib.hid h6
     have HRR:=Lib.hid (show named z (ex z) ts = .ok (.var (hd z ts) q.1 q.2) r' by rw [HN.out,namedR,if_neg (by rw [HI5.out]; simp),if_neg (by rw [h6]; simp)])
     clear h6
     first | refine HT5.out.mono ?_ | (go_wp2_with fail; refine HT5.out.mono ?_)
     rintro _ w5 ⟨rfl,_,_,hw⟩
     rw [HI5.out]
     have hw':=(hw HI5.out).symm; subst hw'; clear hw
     go_wp2_with fail
     refine HS5.out.mono ?_; rintro _ w6 ⟨rfl,rfl⟩
     rw [HI6.out]
     go_wp2_with fail
     go_ret
     rw [HRR.out]
     exact ⟨HCQ.out,_,rfl,⟨w.heap.size,rfl,⟨Nat.le_refl _,HQ.out.lt⟩,HQ.out⟩,HPQ.out⟩
end Go.Proofs.YtojkkgghndeimaaGreatDoor
