/- Some texts in one. -/
import Derived.Test.YtojkkgghndeimaaGreatDoorL15
import Derived.Test.YtojkkgghndeimaaGreatDoorL16
import Derived.Test.YtojkkgghndeimaaGreatDoorL17
namespace Go.Proofs.YtojkkgghndeimaaGreatDoor
open Go Go.RowKit Go.Mq Go.Mq.Tree Go.Mq.Ref
set_option maxRecDepth 100000
set_option maxHeartbeats 16000000
theorem bsize (a:Array UInt8):ByteArray.size ⟨a⟩=a.size:=rfl
theorem u64_rem (n:Int) (d:Nat) (hd : 0 < d) : ∃ k:Nat,(IntKind.u64.wrap n).tmod d=(k:Int)∧k < d:=by
 obtain ⟨u,hu⟩ : ∃ u:Nat,IntKind.u64.wrap n=(u:Int):=⟨(IntKind.u64.wrap n).toNat,by
  have : 0≤IntKind.u64.wrap n:=by simp only [IntKind.wrap,IntKind.bits,IntKind.signed]; simp; omega
  omega⟩
 rw [hu]
 exact ⟨u % d,by rw [Int.tmod_eq_emod_of_nonneg (by omega)]; rfl,Nat.mod_lt _ hd⟩
theorem ix8 (r:Nat) (hr : r < 8) : ∃ x:ByteArray,x.size≤20 ∧ ∀ w,(Instr.index 24 (.agg #[.string ⟨#[54]⟩,.string ⟨#[55]⟩,.string ⟨#[56]⟩,.string ⟨#[57]⟩,.string ⟨#[48]⟩,.string ⟨#[48,48]⟩,.string ⟨#[]⟩,.string ⟨#[55,120]⟩]) (num r)).run Tryz.prog w = .ok (.string x) w:=by
 have : r=0∨r=1∨r=2∨r=3∨r=4∨r=5∨r=6∨r=7:=by omega
 rcases this with rfl | rfl | rfl | rfl | rfl | rfl | rfl | rfl
 ·exact ⟨⟨#[54]⟩,by decide,fun w=>by kernel_rfl⟩
 ·exact ⟨⟨#[55]⟩,by decide,fun w=>by kernel_rfl⟩
 ·exact ⟨⟨#[56]⟩,by decide,fun w=>by kernel_rfl⟩
 ·exact ⟨⟨#[57]⟩,by decide,fun w=>by kernel_rfl⟩
 ·exact ⟨⟨#[48]⟩,by decide,fun w=>by kernel_rfl⟩
 ·exact ⟨⟨#[48,48]⟩,by decide,fun w=>by kernel_rfl⟩
 ·exact ⟨⟨#[]⟩,by decide,fun w=>by kernel_rfl⟩
 ·exact ⟨⟨#[55,120]⟩,by decide,fun w=>by kernel_rfl⟩
theorem ix7 (r:Nat) (hr : r < 7) : ∃ x:ByteArray,x.size≤20 ∧ ∀ w,(Instr.index 26 (.agg #[.string ⟨#[48]⟩,.string ⟨#[49]⟩,.string ⟨#[51,48]⟩,.string ⟨#[51,49]⟩,.string ⟨#[48,48,55]⟩,.string ⟨#[120]⟩,.string ⟨#[57,57,57,57,57,57,57,57,57,57,57,57,57,57,57,57,57,57,57,57]⟩]) (num r)).run Tryz.prog w = .ok (.string x) w:=by
 have : r=0∨r=1∨r=2∨r=3∨r=4∨r=5∨r=6:=by omega
 rcases this with rfl | rfl | rfl | rfl | rfl | rfl | rfl
 ·exact ⟨⟨#[48]⟩,by decide,fun w=>by kernel_rfl⟩
 ·exact ⟨⟨#[49]⟩,by decide,fun w=>by kernel_rfl⟩
 ·exact ⟨⟨#[51,48]⟩,by decide,fun w=>by kernel_rfl⟩
 ·exact ⟨⟨#[51,49]⟩,by decide,fun w=>by kernel_rfl⟩
 ·exact ⟨⟨#[48,48,55]⟩,by decide,fun w=>by kernel_rfl⟩
 ·exact ⟨⟨#[120]⟩,by decide,fun w=>by kernel_rfl⟩
 ·exact ⟨⟨#[57,57,57,57,57,57,57,57,57,57,57,57,57,57,57,57,57,57,57,57]⟩,by decide,fun w=>by kernel_rfl⟩
theorem xB8 {ops:Array Oper} {E:Oper→Bool} {S:World→Prop} {R:Act→World→Prop} {rest:List Oper} {a:Act} {w:World} {d:Option Tmp} {ty:TypeId} {p:String} {af:Array Edge} {g:Option (Nat × Bool)} (h : wpX Tryz.prog ops E S R rest (a.put d (.agg #[.string ⟨#[54]⟩,.string ⟨#[55]⟩,.string ⟨#[56]⟩,.string ⟨#[57]⟩,.string ⟨#[48]⟩,.string ⟨#[48,48]⟩,.string ⟨#[]⟩,.string ⟨#[55,120]⟩])) w) (hw:Region.wanted ⟨d,.build 24 #[(0,.const (.string ⟨#[54]⟩)),(1,.const (.string ⟨#[55]⟩)),(2,.const (.string ⟨#[56]⟩)),(3,.const (.string ⟨#[57]⟩)),(4,.const (.string ⟨#[48]⟩)),(5,.const (.string ⟨#[48,48]⟩)),(6,.const (.string ⟨#[]⟩)),(7,.const (.string ⟨#[55,120]⟩))],ty,p,af,g⟩ (yielded ops a.tmps)=true) : wpX Tryz.prog ops E S R (⟨d,.build 24 #[(0,.const (.string ⟨#[54]⟩)),(1,.const (.string ⟨#[55]⟩)),(2,.const (.string ⟨#[56]⟩)),(3,.const (.string ⟨#[57]⟩)),(4,.const (.string ⟨#[48]⟩)),(5,.const (.string ⟨#[48,48]⟩)),(6,.const (.string ⟨#[]⟩)),(7,.const (.string ⟨#[55,120]⟩))],ty,p,af,g⟩ :: rest) a w:=
 .inl ⟨_,.inl ⟨hw,fun w' _=>by kernel_rfl⟩,h⟩
theorem xB7 {ops:Array Oper} {E:Oper→Bool} {S:World→Prop} {R:Act→World→Prop} {rest:List Oper} {a:Act} {w:World} {d:Option Tmp} {ty:TypeId} {p:String} {af:Array Edge} {g:Option (Nat × Bool)} (h : wpX Tryz.prog ops E S R rest (a.put d (.agg #[.string ⟨#[48]⟩,.string ⟨#[49]⟩,.string ⟨#[51,48]⟩,.string ⟨#[51,49]⟩,.string ⟨#[48,48,55]⟩,.string ⟨#[120]⟩,.string ⟨#[57,57,57,57,57,57,57,57,57,57,57,57,57,57,57,57,57,57,57,57]⟩])) w) (hw:Region.wanted ⟨d,.build 26 #[(0,.const (.string ⟨#[48]⟩)),(1,.const (.string ⟨#[49]⟩)),(2,.const (.string ⟨#[51,48]⟩)),(3,.const (.string ⟨#[51,49]⟩)),(4,.const (.string ⟨#[48,48,55]⟩)),(5,.const (.string ⟨#[120]⟩)),(6,.const (.string ⟨#[57,57,57,57,57,57,57,57,57,57,57,57,57,57,57,57,57,57,57,57]⟩))],ty,p,af,g⟩ (yielded ops a.tmps)=true) : wpX Tryz.prog ops E S R (⟨d,.build 26 #[(0,.const (.string ⟨#[48]⟩)),(1,.const (.string ⟨#[49]⟩)),(2,.const (.string ⟨#[51,48]⟩)),(3,.const (.string ⟨#[51,49]⟩)),(4,.const (.string ⟨#[48,48,55]⟩)),(5,.const (.string ⟨#[120]⟩)),(6,.const (.string ⟨#[57,57,57,57,57,57,57,57,57,57,57,57,57,57,57,57,57,57,57,57]⟩))],ty,p,af,g⟩ :: rest) a w:=
 .inl ⟨_,.inl ⟨hw,fun w' _=>by kernel_rfl⟩,h⟩
def Strs (w:World) (b n:Nat):Prop:=∀ i,i < n → ∃ l:List UInt8,w.cell? ⟨b,i,none⟩=some (str l)∧l.length≤40000
theorem Strs.kept {w w':World} {b n:Nat} (h:Strs w b n) (hc:Chg [] w w'):Strs w' b n:=fun i hi=>by
 obtain ⟨l,h1,h2⟩:=h i hi
 exact ⟨l,hc.cellSome h1 (by simp),h2⟩
theorem str_of (t:ByteArray) (h : t.size≤40000) : ∃ l:List UInt8,Value.string t=str l∧l.length≤40000:=⟨t.data.toList,by rw [str,bs_toList],by rw [← Lib.size_eq]; exact h⟩
theorem Strs.new {w w1:World} {cs:Array Value} {t:TypeId} {n:Nat} (h : w.alloc (.cells cs t)=w1) (hn : cs.size=n) (hcs : ∀ v∈cs.toList,∃ l:List UInt8,v=str l∧l.length≤40000):Strs w1 w.heap.size n:=fun i hi=>by
 obtain ⟨l,h1,h2⟩:=hcs cs[i] (by simp)
 refine ⟨l,?_,h2⟩
 rw [← h,(Blk.new w cs t).cell i (str l) (by rw [Array.getElem?_eq_getElem (by omega),h1])]
theorem mod_spelt {w:World} {F:Nat→Prop} {M:Mod} {v:Value} (h:ModAt w F M v) : ∃ a1 n1 c1 a2 n2 c2 a3 n3 c3 a4 n4 c4,v = .agg #[str M.name,.slice a1 n1 c1,.slice a2 n2 c2,.slice a3 n3 c3,.slice a4 n4 c4]:=by
 obtain ⟨_,_,_,_,rfl,⟨_,_,rfl,_⟩,⟨_,_,rfl,_⟩,⟨_,_,_,rfl,_⟩,⟨_,_,_,rfl,_⟩⟩:=h
 exact ⟨_,_,_,_,_,_,_,_,_,_,_,_,rfl⟩
theorem outM_sm {l:List UInt8} (hl : l.length≤900000):SmM (outM (parse l)):=by
 cases h : parse l with
 | ok m=>exact SmM.of (Nat.le_trans (parse_sp h).2 hl)
 | bad e p=>exact SmM.none
theorem limits_any (n m:Int) (nm:ByteArray) (w:World) (hL:Laid w w.heap.size) (hR:RLaid w w.heap.size) (hE:ErrLaid w):Calls Tryz.prog 3 #[num n,num m,.string nm] w fun e w'=>e = .returned (.bool true)∧Chg [] w w':=by
 have HL:=Lib.hid hL; have HR:=Lib.hid hR; have HE:=Lib.hid hE
 clear hL hR hE
 obtain ⟨k,hk,hk14⟩ : ∃ k:Nat,(IntKind.u64.wrap n).tmod 14=(k:Int)∧k < 14:=u64_rem n 14 (by omega)
 obtain ⟨j,hj,hj12⟩ : ∃ k:Nat,(IntKind.u64.wrap m).tmod 12=(k:Int)∧k < 12:=u64_rem m 12 (by omega)
 have hkw : wrap64 (k:Int)=(k:Int):=by simp [wrap64]; omega
 have hjw : wrap64 (j:Int)=(j:Int):=by simp [wrap64]; omega
 have h14:IntKind.i64.wrap (14 - (k:Int))=((14 - k:Nat):Int):=by simp only [IntKind.wrap,IntKind.bits,IntKind.signed]; simp; omega
 have h13:IntKind.i64.wrap (13 - (k:Int))=((13 - k:Nat):Int):=by simp only [IntKind.wrap,IntKind.bits,IntKind.signed]; simp; omega
 have h288:IntKind.i64.wrap (288 + (j:Int))=((288 + j:Nat):Int):=by simp only [IntKind.wrap,IntKind.bits,IntKind.signed]; simp; omega
 obtain ⟨r8,hr8,hr8'⟩ : ∃ r:Nat,(k:Int).tmod 8=(r:Int)∧r < 8:=⟨k % 8,by rw [Int.tmod_eq_emod_of_nonneg (by omega)]; rfl,by omega⟩
 obtain ⟨r7,hr7,hr7'⟩ : ∃ r:Nat,(k:Int).tmod 7=(r:Int)∧r < 7:=⟨k % 7,by rw [Int.tmod_eq_emod_of_nonneg (by omega)]; rfl,by omega⟩
 obtain ⟨x8,hx8,hi8⟩:=ix8 r8 hr8'
 obtain ⟨x7,hx7,hi7⟩:=ix7 r7 hr7'
 clear hr8' hr7'
 by_cases hn : nm.size≤20
 ·go_enter Tryz.func3,Tryz.ntmps3
  go_wp2_with fail
  obtain ⟨wD,hwD⟩ : ∃ x,x=w.drew:=⟨_,rfl⟩
  have HCD:=Lib.hid (show Chg [] w wD from hwD ▸ (Chg.refl _ _).drew)
  refine wp_region_C [] rfl (by kernel_rfl) ?_
  rw [← hwD]
  clear hwD
  have hS:Chg [] wD wD:=Chg.refl _ _
  repeat ((with_reducible refine gX ?_); (first | refine wpX_nil ?_ | refine xB8 ?_ rfl | refine xB7 ?_ rfl | refine sK ?_ | refine sM fun _ _=>?_ | refine sL fun _ _=>?_ | refine sE fun _ _=>?_); go_wp2_with fail)
  refine (repeat_le ⟨#[40]⟩ k (by omega) (by decide) _).mono ?_; rintro _ wx ⟨⟨t0,rfl,ht0⟩,hwx⟩; subst wx
  go_wp2_with fail
  refine And.intro hS ?_
  repeat ((with_reducible refine gX ?_); (first | refine wpX_nil ?_ | refine xB8 ?_ rfl | refine xB7 ?_ rfl | refine sK ?_ | refine sM fun _ _=>?_ | refine sL fun _ _=>?_ | refine sE fun _ _=>?_); go_wp2_with fail)
  refine (repeat_le ⟨#[41]⟩ k (by omega) (by decide) _).mono ?_; rintro _ wx ⟨⟨t1,rfl,ht1⟩,hwx⟩; subst wx
  go_wp2_with fail
  refine And.intro hS ?_
  repeat ((with_reducible refine gX ?_); (first | refine wpX_nil ?_ | refine xB8 ?_ rfl | refine xB7 ?_ rfl | refine sK ?_ | refine sM fun _ _=>?_ | refine sL fun _ _=>?_ | refine sE fun _ _=>?_); go_wp2_with fail)
  refine (repeat_le ⟨#[45]⟩ k (by omega) (by decide) _).mono ?_; rintro _ wx ⟨⟨t2,rfl,ht2⟩,hwx⟩; subst wx
  go_wp2_with fail
  refine And.intro hS ?_
  repeat ((with_reducible refine gX ?_); (first | refine wpX_nil ?_ | refine xB8 ?_ rfl | refine xB7 ?_ rfl | refine sK ?_ | refine sM fun _ _=>?_ | refine sL fun _ _=>?_ | refine sE fun _ _=>?_); go_wp2_with fail)
  refine (repeat_le ⟨#[110,111,116,32]⟩ k (by omega) (by decide) _).mono ?_; rintro _ wx ⟨⟨t3,rfl,ht3⟩,hwx⟩; subst wx
  go_wp2_with fail
  refine And.intro hS ?_
  repeat ((with_reducible refine gX ?_); (first | refine wpX_nil ?_ | refine xB8 ?_ rfl | refine xB7 ?_ rfl | refine sK ?_ | refine sM fun _ _=>?_ | refine sL fun _ _=>?_ | refine sE fun _ _=>?_); go_wp2_with fail)
  refine (repeat_le ⟨#[40]⟩ (14 - k) (by omega) (by decide) _).mono ?_; rintro _ wx ⟨⟨t4,rfl,ht4⟩,hwx⟩; subst wx
  go_wp2_with fail
  refine And.intro hS ?_
  repeat ((with_reducible refine gX ?_); (first | refine wpX_nil ?_ | refine xB8 ?_ rfl | refine xB7 ?_ rfl | refine sK ?_ | refine sM fun _ _=>?_ | refine sL fun _ _=>?_ | refine sE fun _ _=>?_); go_wp2_with fail)
  refine (repeat_le ⟨#[41]⟩ (14 - k) (by omega) (by decide) _).mono ?_; rintro _ wx ⟨⟨t5,rfl,ht5⟩,hwx⟩; subst wx
  go_wp2_with fail
  refine And.intro hS ?_
  repeat ((with_reducible refine gX ?_); (first | refine wpX_nil ?_ | refine xB8 ?_ rfl | refine xB7 ?_ rfl | refine sK ?_ | refine sM fun _ _=>?_ | refine sL fun _ _=>?_ | refine sE fun _ _=>?_); go_wp2_with fail)
  refine (repeat_le ⟨#[119,104,105,108,101,32,49,32,100,111,32]⟩ k (by omega) (by decide) _).mono ?_; rintro _ wx ⟨⟨t6,rfl,ht6⟩,hwx⟩; subst wx
  go_wp2_with fail
  refine And.intro hS ?_
  repeat ((with_reducible refine gX ?_); (first | refine wpX_nil ?_ | refine xB8 ?_ rfl | refine xB7 ?_ rfl | refine sK ?_ | refine sM fun _ _=>?_ | refine sL fun _ _=>?_ | refine sE fun _ _=>?_); go_wp2_with fail)
  refine (repeat_le ⟨#[101,110,100,59,32]⟩ k (by omega) (by decide) _).mono ?_; rintro _ wx ⟨⟨t7,rfl,ht7⟩,hwx⟩; subst wx
  go_wp2_with fail
  refine And.intro hS ?_
  repeat ((with_reducible refine gX ?_); (first | refine wpX_nil ?_ | refine xB8 ?_ rfl | refine xB7 ?_ rfl | refine sK ?_ | refine sM fun _ _=>?_ | refine sL fun _ _=>?_ | refine sE fun _ _=>?_); go_wp2_with fail)
  refine (repeat_le ⟨#[101,108,115,105,102,32,50,32,116,104,101,110,32]⟩ k (by omega) (by decide) _).mono ?_; rintro _ wx ⟨⟨t8,rfl,ht8⟩,hwx⟩; subst wx
  go_wp2_with fail
  refine And.intro hS ?_
  repeat ((with_reducible refine gX ?_); (first | refine wpX_nil ?_ | refine xB8 ?_ rfl | refine xB7 ?_ rfl | refine sK ?_ | refine sM fun _ _=>?_ | refine sL fun _ _=>?_ | refine sE fun _ _=>?_); go_wp2_with fail)
  refine (repeat_le ⟨#[32,43,32,49]⟩ (288 + j) (by omega) (by decide) _).mono ?_; rintro _ wx ⟨⟨t9,rfl,ht9⟩,hwx⟩; subst wx
  go_wp2_with fail
  refine And.intro hS ?_
  repeat ((with_reducible refine gX ?_); (first | refine wpX_nil ?_ | refine xB8 ?_ rfl | refine xB7 ?_ rfl | refine sK ?_ | refine sM fun _ _=>?_ | refine sL fun _ _=>?_ | refine sE fun _ _=>?_); go_wp2_with fail)
  refine And.intro (hS.alloc _) ?_
  generalize hw1:World.alloc wD _=w1
  have hT1:Strs w1 wD.heap.size 12:=Strs.new hw1 rfl (by
   intro v hv
   simp only [List.mem_cons,List.not_mem_nil,or_false] at hv
   rcases hv with rfl | rfl | rfl | rfl | rfl | rfl | rfl | rfl | rfl | rfl | rfl | rfl
   all_goals exact str_of _ (by simp [ByteArray.size_append,bsize] <;> omega))
  have hc1:Chg [] w w1:=HCD.out.then (hw1 ▸ (Chg.refl [] wD).alloc _)
  have hb1 : w.heap.size≤wD.heap.size:=HCD.out.size
  generalize hb : wD.heap.size=b1
  rw [hb] at hT1 hb1
  have HT1:=Lib.hid hT1; have HC1:=Lib.hid hc1
  clear hT1 hc1 hw1 ht0 ht1 ht2 ht3 ht4 ht5 ht6 ht7 ht8 ht9 hS hb
  repeat ((with_reducible refine gX ?_); (first | refine wpX_nil ?_ | refine xB8 ?_ rfl | refine xB7 ?_ rfl | refine sK ?_ | refine sM fun _ _=>?_ | refine sL fun _ _=>?_ | refine sE fun _ _=>?_); go_wp2_with fail)
  obtain ⟨wE,hwE⟩ : ∃ x,x=w1.drew:=⟨_,rfl⟩
  have HCE:=Lib.hid (show Chg [] w1 wE from hwE ▸ (Chg.refl _ _).drew)
  refine wp_region_C [] rfl (by kernel_rfl) ?_
  rw [← hwE]
  clear hwE
  have hS:Chg [] wE wE:=Chg.refl _ _
  repeat ((with_reducible refine gX ?_); (first | refine wpX_nil ?_ | refine xB8 ?_ rfl | refine xB7 ?_ rfl | refine sK ?_ | refine sM fun _ _=>?_ | refine sL fun _ _=>?_ | refine sE fun _ _=>?_); go_wp2_with fail)
  refine (repeat_le ⟨#[118,97,114,32,97,58,32,105,110,116,59,32]⟩ k (by omega) (by decide) _).mono ?_; rintro _ wx ⟨⟨t0,rfl,ht0⟩,hwx⟩; subst wx
  go_wp2_with fail
  refine And.intro hS ?_
  repeat ((with_reducible refine gX ?_); (first | refine wpX_nil ?_ | refine xB8 ?_ rfl | refine xB7 ?_ rfl | refine sK ?_ | refine sM fun _ _=>?_ | refine sL fun _ _=>?_ | refine sE fun _ _=>?_); go_wp2_with fail)
  refine (repeat_le ⟨#[112,114,111,99,32,112,40,41,59,32,98,101,103,105,110,32,101,110,100,59,32]⟩ k (by omega) (by decide) _).mono ?_; rintro _ wx ⟨⟨t1,rfl,ht1⟩,hwx⟩; subst wx
  go_wp2_with fail
  refine And.intro hS ?_
  repeat ((with_reducible refine gX ?_); (first | refine wpX_nil ?_ | refine xB8 ?_ rfl | refine xB7 ?_ rfl | refine sK ?_ | refine sM fun _ _=>?_ | refine sL fun _ _=>?_ | refine sE fun _ _=>?_); go_wp2_with fail)
  refine (repeat_le ⟨#[44,32,98]⟩ k (by omega) (by decide) _).mono ?_; rintro _ wx ⟨⟨t2,rfl,ht2⟩,hwx⟩; subst wx
  go_wp2_with fail
  refine And.intro hS ?_
  repeat ((with_reducible refine gX ?_); (first | refine wpX_nil ?_ | refine xB8 ?_ rfl | refine xB7 ?_ rfl | refine sK ?_ | refine sM fun _ _=>?_ | refine sL fun _ _=>?_ | refine sE fun _ _=>?_); go_wp2_with fail)
  refine (repeat_le ⟨#[44,32,100]⟩ (13 - k) (by omega) (by decide) _).mono ?_; rintro _ wx ⟨⟨t3,rfl,ht3⟩,hwx⟩; subst wx
  go_wp2_with fail
  refine And.intro hS ?_
  repeat ((with_reducible refine gX ?_); (first | refine wpX_nil ?_ | refine xB8 ?_ rfl | refine xB7 ?_ rfl | refine sK ?_ | refine sM fun _ _=>?_ | refine sL fun _ _=>?_ | refine sE fun _ _=>?_); go_wp2_with fail)
  refine (repeat_le ⟨#[44,32,98]⟩ k (by omega) (by decide) _).mono ?_; rintro _ wx ⟨⟨t4,rfl,ht4⟩,hwx⟩; subst wx
  go_wp2_with fail
  refine And.intro hS ?_
  repeat ((with_reducible refine gX ?_); (first | refine wpX_nil ?_ | refine xB8 ?_ rfl | refine xB7 ?_ rfl | refine sK ?_ | refine sM fun _ _=>?_ | refine sL fun _ _=>?_ | refine sE fun _ _=>?_); go_wp2_with fail)
  refine And.intro (hS.alloc _) ?_
  generalize hw2:World.alloc wE _=w2
  have hT2:Strs w2 wE.heap.size 6:=Strs.new hw2 rfl (by
   intro v hv
   simp only [List.mem_cons,List.not_mem_nil,or_false] at hv
   rcases hv with rfl | rfl | rfl | rfl | rfl | rfl
   all_goals exact str_of _ (by first | (simp [ByteArray.size_append,bsize] <;> omega) | omega))
  have hcE:Chg [] w1 w2:=HCE.out.then (hw2 ▸ (Chg.refl [] wE).alloc _)
  have hT1:=HT1.out.kept hcE
  have hc2:=HC1.out.then hcE
  generalize hb : wE.heap.size=b2
  rw [hb] at hT2
  clear HT1 HC1 HCE HCD
  have HT1:=Lib.hid hT1; have HT2:=Lib.hid hT2; have HC2:=Lib.hid hc2
  clear hT1 hT2 hc2 hcE hw2 ht0 ht1 ht2 ht3 ht4 hS hb hk hj hk14 hj12 hkw hjw h14 h13 h288 hr8 hr7 hx8 hi8 hx7 hi7
  repeat ((with_reducible refine gX ?_); (first | refine wpX_nil ?_ | refine xB8 ?_ rfl | refine xB7 ?_ rfl | refine sK ?_ | refine sM fun _ _=>?_ | refine sL fun _ _=>?_ | refine sE fun _ _=>?_); go_wp2_with fail)
  go_loopw [10,11,12,13,14,15] (fun i _ _ _ _ _ wr=>∃ k:Nat,i=num k∧k≤18∧Chg [] w2 wr) (fun i _ _ _ _ _ _=>18 - (intOf i).toNat)
  case atStart=>exact ⟨0,rfl,by omega,Chg.refl _ _⟩
  case round=>
   obtain ⟨k,rfl,hk,hc⟩:=hrel
   have hwr:IntKind.i64.wrap ((k:Int) + 1)=(k:Int) + 1:=by
    simp only [IntKind.wrap,IntKind.bits,IntKind.signed]; simp; omega
   by_cases hk18 : k < 18
   ·have hlt18 : decide ((k:Int) < 18)=true:=by simp; omega
    by_cases hk12 : k < 12
    case' pos=>
     have hlt12 : decide ((k:Int) < 12)=true:=by simp; omega
     obtain ⟨l,hcell,hl⟩:=(HT1.out.kept hc) k hk12
     have HC:=Lib.hid hc; clear hc
     go_wp2_with fail
     obtain ⟨l',hl',hlen⟩ : ∃ l':List UInt8,Value.string (({ data:=#[109,111,100,117,108,101,32,109,59,32,98,101,103,105,110,32] } ++ (bs l ++ { data:=#[32,101,110,100,46] })))=str l'∧l'.length≤50000:=⟨(({ data:=#[109,111,100,117,108,101,32,109,59,32,98,101,103,105,110,32] } ++ (bs l ++ { data:=#[32,101,110,100,46] })):ByteArray).data.toList,by rw [str,bs_toList],by rw [← Lib.size_eq]; simp [ByteArray.size_append,bsize,bs_size] <;> omega⟩
     rw [hl']
     have HLEN:=Lib.hid hlen
     clear hl' hlen hcell hl
    case' neg=>
     have hlt12 : decide ((k:Int) < 12)=false:=by simp; omega
     have hsub:IntKind.i64.wrap ((k:Int) - 12)=((k - 12:Nat):Int):=by
      simp only [IntKind.wrap,IntKind.bits,IntKind.signed]; simp; omega
     have hk6 : decide (((k - 12:Nat):Int) < 6)=true:=by simp; omega
     obtain ⟨l,hcell,hl⟩:=(HT2.out.kept hc) (k - 12) (by omega)
     have HC:=Lib.hid hc; clear hc
     go_wp2_with fail
     obtain ⟨l',hl',hlen⟩ : ∃ l':List UInt8,Value.string (({ data:=#[109,111,100,117,108,101,32,109,59,32] } ++ bs l ++ { data:=#[98,101,103,105,110,32,101,110,100,46] }))=str l'∧l'.length≤50000:=⟨(({ data:=#[109,111,100,117,108,101,32,109,59,32] } ++ bs l ++ { data:=#[98,101,103,105,110,32,101,110,100,46] }):ByteArray).data.toList,by rw [str,bs_toList],by rw [← Lib.size_eq]; simp [ByteArray.size_append,bsize,bs_size] <;> omega⟩
     rw [hl']
     have HLEN:=Lib.hid hlen
     clear hl' hlen hcell hl
    all_goals
     have HRr:=Lib.hid (HR.out.kept (HC2.out.then HC.out) (by simp))
     refine (rparse_any l' (by have:=HLEN.out; omega) wr w.heap.size HRr.out).mono ?_; intro e wA he
     obtain ⟨hcA,v,rfl,hmA⟩:=rout he
     have hsm:SmM (outM (parse l')):=outM_sm (by have:=HLEN.out; omega)
     obtain ⟨M,hM⟩ : ∃ x,x=outM (parse l'):=⟨_,rfl⟩
     obtain ⟨en,hen⟩ : ∃ x,x=outE (parse l'):=⟨_,rfl⟩
     obtain ⟨pp,hpp⟩ : ∃ x,x=outP (parse l'):=⟨_,rfl⟩
     rw [← hM] at hmA hsm
     rw [← hen,← hpp]
     have HPM:=Lib.hid (And.intro hM (And.intro hen hpp)); clear hM hen hpp
     obtain ⟨a1,n1,c1,a2,n2,c2,a3,n3,c3,a4,n4,c4,rfl⟩:=mod_spelt hmA
     obtain ⟨wB,hwB⟩ : ∃ x,(wA.alloc (.cells #[str [],nils,nils,nils,nils] 31)).alloc (.cells #[num 0,num 0] 34)=x:=⟨_,rfl⟩
     have hcB:Chg [] wA wB:=hwB ▸ ((Chg.refl _ _).alloc _).alloc _
     have hbm:Blk wB wA.heap.size #[str [],nils,nils,nils,nils] 31:=hwB ▸ (Blk.new wA _ _).kept ((Chg.refl [] _).alloc _) (by simp)
     have hbf:Blk wB (wA.heap.size + 1) #[num 0,num 0] 34:=by
      have:=Blk.new (wA.alloc (.cells #[str [],nils,nils,nils,nils] 31)) #[num 0,num 0] 34
      rw [show (wA.alloc (.cells #[str [],nils,nils,nils,nils] 31)).heap.size=wA.heap.size + 1 by simp,hwB] at this; exact this
     obtain ⟨m0,m1,m2,m3,m4⟩:=hbm.five
     have mf0:=hbm.frozen 0; have mf1:=hbm.frozen 1; have mf2:=hbm.frozen 2; have mf3:=hbm.frozen 3; have mf4:=hbm.frozen 4
     obtain ⟨wX,hwX,hcX,hbX⟩:=set5 (str M.name) (.slice a1 n1 c1) (.slice a2 n2 c2) (.slice a3 n3 c3) (.slice a4 n4 c4) hbm
     have hfX:=hbf.kept hcX (by simp)
     have k0:=hfX.cell 0 (num 0) rfl; have k1:=hfX.cell 1 (num 0) rfl; have kf0:=hfX.frozen 0; have kf1:=hfX.frozen 1
     obtain ⟨wY,hwY,hcY,hbY⟩:=set2 (num en) (num pp) hfX
     have hbXY:=hbX.kept hcY (by simp)
     have hcAY:Chg [] wA wY:=(hcB.trans hcX (fun x hx=>.inr (by simp at hx; omega))).trans hcY (fun x hx=>.inr (by simp at hx; omega))
     have HCA:=Lib.hid hcA; have HCAY:=Lib.hid hcAY; have HMA:=Lib.hid hmA; have HSM:=Lib.hid hsm; have HBX:=Lib.hid hbXY; have HBY:=Lib.hid hbY
     clear he hcA hmA hsm hcB hbm hbf hcX hbX hfX hcY hbY hbXY hcAY
     go_wp2_with fail
     clear m0 m1 m2 m3 m4 mf0 mf1 mf2 mf3 mf4 k0 k1 kf0 kf1 hwB hwX hwY
     have HLy:=Lib.hid ((HL.out.kept (HC2.out.then HC.out) (by simp)).kept (HCA.out.then HCAY.out) (by simp))
     refine (parse_any l' (by have:=HLEN.out; omega) wY w.heap.size HLy.out).mono ?_; intro e wC he
     obtain ⟨hcC,v,ev,rfl,hev,hmC⟩:=tout he
     rw [← HPM.out.1] at hmC
     rw [← HPM.out.2.1,← HPM.out.2.2] at hev
     obtain ⟨d1,o1,e1,d2,o2,e2,d3,o3,e3,d4,o4,e4,rfl⟩:=mod_spelt hmC
     obtain ⟨wE,hwE⟩ : ∃ x,wC.alloc (.cells #[str [],nils,nils,nils,nils] 31)=x:=⟨_,rfl⟩
     have hcE:Chg [] wC wE:=hwE ▸ (Chg.refl _ _).alloc _
     have hbm:Blk wE wC.heap.size #[str [],nils,nils,nils,nils] 31:=hwE ▸ Blk.new wC _ _
     obtain ⟨m0,m1,m2,m3,m4⟩:=hbm.five
     have mf0:=hbm.frozen 0; have mf1:=hbm.frozen 1; have mf2:=hbm.frozen 2; have mf3:=hbm.frozen 3; have mf4:=hbm.frozen 4
     obtain ⟨wF,hwF,hcF,hbF⟩:=set5 (str M.name) (.slice d1 o1 e1) (.slice d2 o2 e2) (.slice d3 o3 e3) (.slice d4 o4 e4) hbm
     have hcCF:Chg [] wC wF:=hcE.trans hcF (fun x hx=>.inr (by simp at hx; omega))
     have hbX:=HBX.out.kept (hcC.then hcCF) (by simp)
     have hbY:=HBY.out.kept (hcC.then hcCF) (by simp)
     have y0:=hbY.cell 0 (num en) rfl; have y1:=hbY.cell 1 (num pp) rfl
     have HBF:=Lib.hid hbF; have HBX2:=Lib.hid hbX
     have HCYF:=Lib.hid (hcC.then hcCF); have HCC:=Lib.hid hcC; have HCCF:=Lib.hid hcCF
     have HEV:=Lib.hid (show ErrIs wF ev en pp from by
      rcases hev with h | ⟨b,h,hb⟩
      ·exact .inl h
      ·exact .inr ⟨b,h,hb.kept hcCF (by simp)⟩)
     have HMC:=Lib.hid hmC
     clear he hcC hcE hcF hcCF hbX hbY hbF hev hmC hbm
     go_wp2_with fail
     clear m0 m1 m2 m3 m4 mf0 mf1 mf2 mf3 mf4 y0 y1 hwE hwF
     have HCW:=Lib.hid ((HCA.out.then HCAY.out).then HCYF.out)
     have HEF:=Lib.hid ((HE.out.kept (HC2.out.then HC.out) (by simp)).kept HCW.out (by simp))
     refine (is_same HEF.out HEV.out).mono ?_; rintro _ wG ⟨rfl,hcG⟩
     have hb1:=HBF.out.kept hcG (by simp)
     have hb2:=HBX2.out.kept hcG (by simp)
     obtain ⟨m0,m1,m2,m3,m4⟩:=hb1.five
     obtain ⟨n0,n1',n2',n3',n4'⟩:=hb2.five
     have hm1:=HMC.out.kept (HCCF.out.then hcG) (by simp)
     have hm2:=HMA.out.kept ((HCAY.out.then HCYF.out).then hcG) (by simp)
     have HSAME:=Lib.hid (sameModule_any HSM.out hm1 hm2)
     have HCG:=Lib.hid (HC.out.then (HCW.out.then hcG))
     clear hcG hb1 hb2 hm1 hm2
     go_wp2_with fail
     refine HSAME.out.mono ?_; rintro _ wH ⟨rfl,hcH⟩
     have HCH:=Lib.hid (HCG.out.then hcH)
     clear hcH m0 m1 m2 m3 m4 n0 n1' n2' n3' n4'
     go_wp2_with fail
     go_roundw
     case rel=>exact ⟨k + 1,by go_num,by omega,HCH.out⟩
     case measure=>simp [intOf]; omega
   ·have hlt18 : decide ((k:Int) < 18)=false:=by simp; omega
    have HC:=Lib.hid (HC2.out.then hc); clear hc
    go_wp2_with fail
    go_ret
    exact ⟨rfl,HC.out⟩
 ·go_enter Tryz.func3,Tryz.ntmps3
  go_wp2_with fail
  go_ret
  exact ⟨rfl,Chg.refl _ _⟩
end Go.Proofs.YtojkkgghndeimaaGreatDoor
