/- Some texts in one. -/
import Derived.Test.YtechofppmnnomaaGreatDoorG15
import Derived.Test.YtechofppmnnomaaGreatDoorG19
namespace Go.Mq.Check
open Go Go.RowKit Go.Mq Go.Mq.Tree Go.Mq.Sym
def orL (l:List Look):Look:=l.foldr Option.or none
theorem orL_cons (r:Look) (l:List Look) : orL (r :: l)=r.or (orL l):=rfl
end Go.Mq.Check
namespace Go.Proofs.YtechofppmnnomaaGreatDoor
open Go Go.RowKit Go.Mq Go.Mq.Tree Go.Mq.Sym Go.Mq.Check
set_option maxRecDepth 100000
set_option maxHeartbeats 2000000
def Kid (bc:Nat) (w:World) (u:Value) (r:Look):Prop:=(u=nilp∧r=none) ∨ ∃ b,u=ptr b ∧ ∀ w',Chg [] w w'→Calls Tryz.prog 138 #[ptr bc,ptr b] w' (Looked [] w' r)
def Kids (bc:Nat) (w:World):List Value→List Look→Prop
 | [],rs=>rs=[]
 | u :: us,rs=>∃ r rs',rs=r :: rs'∧Kid bc w u r∧Kids bc w us rs'
theorem Kids.one {bc:Nat} {w:World} : ∀ {us:List Value} {rs:List Look},Kids bc w us rs → ∀ x∈us,x.oneCell'=true
 | [],_,_=>by simp
 | u :: us,_,h=>by
  obtain⟨r,rs',rfl,hk,h⟩:=h;intro x hx;rcases List.mem_cons.1 hx with rfl|hx
  ·rcases hk with⟨rfl,_⟩|⟨b,rfl,_⟩ <;> rfl
  ·exact h.one x hx
theorem expr_n1 (bc be p:Nat) (c2 c5:Value) (ou ov:Option Addr) (m n:List UInt8) (a:Option Addr) (kk:Nat) (vs:List Value) (rs:List Look) (w:World) (hx:Blk w be #[.int .i64 1,.int .i64 p,c2,str m,str n,c5,.pointer ou,.pointer ov,.slice a vs.length kk] 192) (hat:At w a vs) (hfew : vs.length≤1000) (hks:Kids bc w (.pointer ou :: .pointer ov :: vs) rs) :
  Calls Tryz.prog 138 #[ptr bc,ptr be] w (Looked [] w (orL rs)):=by
 have HX:=zh hx;have HAT:=zh hat;have HKS:=zh hks;have HCW:=zh (Chg.refl [] w);clear hx hat hks;obtain⟨tgt,htgt⟩ : ∃ t,t=orL rs:=⟨_,rfl⟩
 rw [← htgt];have HTG:=zh htgt;clear htgt;have x0 : w.cell? ⟨be,0,none⟩=_:=HX.out.cell 0 _ rfl
 go_enter Tryz.func138,Tryz.ntmps138
 go_wp2_with fail;clear x0;obtain⟨wD,hwD⟩ : ∃ x,x=w.drew:=⟨_,rfl⟩
 have hWD:Chg [] w wD:=by rw [hwD];exact(Chg.refl [] w).drew
 have HX:=zh (HX.out.kept hWD (by simp));have HCW:=zh (HCW.out.then hWD);clear hWD;have x6 : wD.cell? ⟨be,6,none⟩=_:=HX.out.cell 6 _ rfl;have x7 : wD.cell? ⟨be,7,none⟩=_:=HX.out.cell 7 _ rfl;have x8 : wD.cell? ⟨be,8,none⟩=_:=HX.out.cell 8 _ rfl;have Z2:=zh (Zone.of (X:=[]) (w0:=wD) x6 (by simp));have hown : (wD.alloc (.cells #[.pointer ou,.pointer ov] 166)).ownsRow 0 166 1 (.slice (some ⟨wD.heap.size,0,none⟩) 2 2) 2 [.pointer ou,.pointer ov]:=⟨rfl,.inr ⟨wD.heap.size,2,#[.pointer ou,.pointer ov],rfl,Nat.zero_le _,heap_alloc_new wD _,Nat.le_refl _,by unfold maxLen;omega,rfl,rfl⟩⟩;have HOWN:=zh hown;have hca:Chg [] wD (wD.alloc (.cells #[.pointer ou,.pointer ov] 166)):=(Chg.refl _ _).alloc _;have HATD:=zh (show At (wD.alloc (.cells #[.pointer ou,.pointer ov] 166)) a vs from HAT.out.kept (HCW.out.then hca) (fun p hp hm=>by simp at hm));have HONE:=zh (show ∀ x∈vs,x.oneCell'=true from fun x hx=>HKS.out.one x (by simp [hx]));obtain⟨US,hUS⟩ : ∃ U,U=[.pointer ou,.pointer ov] ++ vs:=⟨_,rfl⟩
 have hUL:US.length=2 + vs.length:=by rw [hUS];simp;omega
 have HKS:=zh (show Kids bc w US rs by rw [hUS];exact HKS.out);have HUS:=zh hUS;have hbe : be≠wD.heap.size:=by have:=HX.out.lt;omega
 have x8a:=hca.cellSome x8 (by simp);clear hown hca hUS;refine wp_region_C [] rfl (by kernel_rfl) ?_;rw [← hwD];clear hwD;have hS:Chg [] wD wD:=Chg.refl _ _
 repeat ((with_reducible show wpX _ _ _ _ _ _ _ _);(first|refine wpX_nil ?_|refine wpX_skip rfl ?_|refine wpX_mv rfl rfl (by kernel_rfl) (fun _ _=>?_)|refine wpX_ldC rfl rfl rfl (by exact Z2.out) (by assumption) (fun _ _=>?_)|refine wpX_ef' rfl rfl rfl (fun _ _=>?_));go_wp2_with fail)
 refine And.intro (hS.alloc _) ?_;have hS1:Chg [] wD (wD.alloc (.cells #[.pointer ou,.pointer ov] 166)):=hS.alloc _
 repeat ((with_reducible show wpX _ _ _ _ _ _ _ _);(first|refine wpX_nil ?_|refine wpX_skip rfl ?_|refine wpX_mv rfl rfl (by kernel_rfl) (fun _ _=>?_)|refine wpX_ldC rfl rfl rfl (by exact Z2.out) (by assumption) (fun _ _=>?_)|refine wpX_ef' rfl rfl rfl (fun _ _=>?_));go_wp2_with fail)
 refine wpX_append_any _ _ 190 rfl rfl rfl 166 (.pointer none) 1 8 infoPtr Tryz.underlying190 rfl (by decide) (.slice (some ⟨wD.heap.size,0,none⟩) 2 2) 2 [.pointer ou,.pointer ov] rfl HOWN.out a vs.length kk vs rfl (by simp) HATD.out HONE.out (by omega) (by unfold maxLen;omega) ?_;intro v2 w2 ho2 hc2 _;have hS:Chg [] wD w2:=((Chg.refl [] wD).alloc _).trans hc2 (fun x hx=>.inr (by simp [blk] at hx;omega));rw [← HUS.out] at ho2;obtain⟨ra,rc,rfl,hrc,hrow⟩:=Row.of_owns ho2 (F:=fun _=>True) (fun _ _=>trivial);have HROW:=zh hrow;have HCW:=zh (HCW.out.then hS);clear ho2 hc2 hrow x6 x7 x8 x8a hbe;refine And.intro hS ?_;clear hS1
 repeat ((with_reducible show wpX _ _ _ _ _ _ _ _);(first|refine wpX_nil ?_|refine wpX_skip rfl ?_|refine wpX_mv rfl rfl (by kernel_rfl) (fun _ _=>?_)|refine wpX_ldC rfl rfl rfl (by exact Z2.out) (by assumption) (fun _ _=>?_)|refine wpX_ef' rfl rfl rfl (fun _ _=>?_));go_wp2_with fail)
 clear hS Z2
 go_loopw [6,85] (fun _ i wr=>∃ (k:Nat) (us2:List Value) (rs2:List Look),i = .int .i64 k∧US.drop k=us2∧k≤US.length∧Kids bc w us2 rs2∧orL rs2=orL rs∧Chg [] w2 wr) (fun _ i _=>US.length - (intOf i).toNat)
 case atStart=>exact⟨0,US,rs,rfl,rfl,Nat.zero_le _,HKS.out,rfl,Chg.refl _ _⟩
 case round=>
  obtain⟨k,us2,rs2,rfl,hdr,hkl,hks,htot,hcr⟩:=hrel;have HCR:=zh hcr;by_cases hlt : k < 2 + vs.length
  ·obtain⟨x,hx⟩ : ∃ x,US[k]?=some x:=⟨US[k]'(by omega),List.getElem?_eq_getElem (by omega)⟩
   have hd2 : us2=x :: US.drop (k + 1):=by
    rw [← hdr,List.drop_eq_getElem_cons (by omega)]
    congr 1
    rw [List.getElem?_eq_getElem (by omega)] at hx;exact Option.some.inj hx
   rw [hd2] at hks;obtain⟨r,rs3,rfl,hkid,hks⟩:=hks;obtain⟨rb,ro,rfl,hcell⟩:=HROW.out.at_ (by omega);have d0:=hcr.cellSome (hcell k x hx) (by simp);have HKS:=zh hks;have HTOT:=zh htot;clear hdr hd2 hks hcell hx htot hcr;rcases hkid with⟨rfl,rfl⟩|⟨b,rfl,hcall⟩
   ·go_wp2_with fail
    exact⟨⟨k + 1,_,rs3,by go_num,rfl,by omega,HKS.out,HTOT.out,HCR.out⟩,by simp [intOf];omega⟩
   ·have HCALL:=zh (hcall wr (HCW.out.then HCR.out))
    clear hcall;cases r with
    | none=>
     go_wp2_with fail;refine HCALL.out.mono ?_;rintro _ w4 ⟨hc4,rfl⟩;have HC4:=zh (HCR.out.then hc4);clear hc4;go_wp2_with fail;exact⟨⟨k + 1,_,rs3,by go_num,rfl,by omega,HKS.out,HTOT.out,HC4.out⟩,by simp [intOf];omega⟩
    | some y=>
     obtain⟨en,q⟩:=y;go_wp2_with fail;refine HCALL.out.mono ?_;rintro _ w4 ⟨hc4,b9,rfl,hl9,hb9⟩;have HC4:=zh ((HCW.out.then HCR.out).then hc4);have HB9:=zh hb9;have HL9:=zh hl9;have hsz:=(HCW.out.then HCR.out).size;clear hc4 hb9 hl9;go_wp2_with fail;rw [HTG.out,← HTOT.out,orL_cons];exact⟨rfl,HC4.out,b9,rfl,by have:=HL9.out;omega,HB9.out⟩
  ·have hde : us2=[]:=by rw [← hdr];exact List.drop_eq_nil_of_le (by omega)
   rw [hde] at hks;have hrs : rs2=[]:=hks;have HTOT:=zh (show orL rs=none by rw [← htot,hrs];rfl);clear hdr hde hks hrs htot hcr;go_wp2_with fail;refine bodyPost_end (results_none rfl _ _ _) rfl ?_;rw [HTG.out,HTOT.out];exact⟨HCW.out.then HCR.out,rfl⟩
theorem expr_n4 (bc be p:Nat) (c2 c5:Value) (ou ov:Option Addr) (m n:List UInt8) (a:Option Addr) (kk:Nat) (vs:List Value) (rs:List Look) (w:World) (hx:Blk w be #[.int .i64 4,.int .i64 p,c2,str m,str n,c5,.pointer ou,.pointer ov,.slice a vs.length kk] 192) (hat:At w a vs) (hfew : vs.length≤1000) (hks:Kids bc w (.pointer ou :: .pointer ov :: vs) rs) :
  Calls Tryz.prog 138 #[ptr bc,ptr be] w (Looked [] w (orL rs)):=by
 have HX:=zh hx;have HAT:=zh hat;have HKS:=zh hks;have HCW:=zh (Chg.refl [] w);clear hx hat hks;obtain⟨tgt,htgt⟩ : ∃ t,t=orL rs:=⟨_,rfl⟩
 rw [← htgt];have HTG:=zh htgt;clear htgt;have x0 : w.cell? ⟨be,0,none⟩=_:=HX.out.cell 0 _ rfl
 go_enter Tryz.func138,Tryz.ntmps138
 go_wp2_with fail;clear x0;obtain⟨wD,hwD⟩ : ∃ x,x=w.drew:=⟨_,rfl⟩
 have hWD:Chg [] w wD:=by rw [hwD];exact(Chg.refl [] w).drew
 have HX:=zh (HX.out.kept hWD (by simp));have HCW:=zh (HCW.out.then hWD);clear hWD;have x6 : wD.cell? ⟨be,6,none⟩=_:=HX.out.cell 6 _ rfl;have x7 : wD.cell? ⟨be,7,none⟩=_:=HX.out.cell 7 _ rfl;have x8 : wD.cell? ⟨be,8,none⟩=_:=HX.out.cell 8 _ rfl;have Z2:=zh (Zone.of (X:=[]) (w0:=wD) x6 (by simp));have hown : (wD.alloc (.cells #[.pointer ou,.pointer ov] 166)).ownsRow 0 166 1 (.slice (some ⟨wD.heap.size,0,none⟩) 2 2) 2 [.pointer ou,.pointer ov]:=⟨rfl,.inr ⟨wD.heap.size,2,#[.pointer ou,.pointer ov],rfl,Nat.zero_le _,heap_alloc_new wD _,Nat.le_refl _,by unfold maxLen;omega,rfl,rfl⟩⟩;have HOWN:=zh hown;have hca:Chg [] wD (wD.alloc (.cells #[.pointer ou,.pointer ov] 166)):=(Chg.refl _ _).alloc _;have HATD:=zh (show At (wD.alloc (.cells #[.pointer ou,.pointer ov] 166)) a vs from HAT.out.kept (HCW.out.then hca) (fun p hp hm=>by simp at hm));have HONE:=zh (show ∀ x∈vs,x.oneCell'=true from fun x hx=>HKS.out.one x (by simp [hx]));obtain⟨US,hUS⟩ : ∃ U,U=[.pointer ou,.pointer ov] ++ vs:=⟨_,rfl⟩
 have hUL:US.length=2 + vs.length:=by rw [hUS];simp;omega
 have HKS:=zh (show Kids bc w US rs by rw [hUS];exact HKS.out);have HUS:=zh hUS;have hbe : be≠wD.heap.size:=by have:=HX.out.lt;omega
 have x8a:=hca.cellSome x8 (by simp);clear hown hca hUS;refine wp_region_C [] rfl (by kernel_rfl) ?_;rw [← hwD];clear hwD;have hS:Chg [] wD wD:=Chg.refl _ _
 repeat ((with_reducible show wpX _ _ _ _ _ _ _ _);(first|refine wpX_nil ?_|refine wpX_skip rfl ?_|refine wpX_mv rfl rfl (by kernel_rfl) (fun _ _=>?_)|refine wpX_ldC rfl rfl rfl (by exact Z2.out) (by assumption) (fun _ _=>?_)|refine wpX_ef' rfl rfl rfl (fun _ _=>?_));go_wp2_with fail)
 refine And.intro (hS.alloc _) ?_;have hS1:Chg [] wD (wD.alloc (.cells #[.pointer ou,.pointer ov] 166)):=hS.alloc _
 repeat ((with_reducible show wpX _ _ _ _ _ _ _ _);(first|refine wpX_nil ?_|refine wpX_skip rfl ?_|refine wpX_mv rfl rfl (by kernel_rfl) (fun _ _=>?_)|refine wpX_ldC rfl rfl rfl (by exact Z2.out) (by assumption) (fun _ _=>?_)|refine wpX_ef' rfl rfl rfl (fun _ _=>?_));go_wp2_with fail)
 refine wpX_append_any _ _ 190 rfl rfl rfl 166 (.pointer none) 1 8 infoPtr Tryz.underlying190 rfl (by decide) (.slice (some ⟨wD.heap.size,0,none⟩) 2 2) 2 [.pointer ou,.pointer ov] rfl HOWN.out a vs.length kk vs rfl (by simp) HATD.out HONE.out (by omega) (by unfold maxLen;omega) ?_;intro v2 w2 ho2 hc2 _;have hS:Chg [] wD w2:=((Chg.refl [] wD).alloc _).trans hc2 (fun x hx=>.inr (by simp [blk] at hx;omega));rw [← HUS.out] at ho2;obtain⟨ra,rc,rfl,hrc,hrow⟩:=Row.of_owns ho2 (F:=fun _=>True) (fun _ _=>trivial);have HROW:=zh hrow;have HCW:=zh (HCW.out.then hS);clear ho2 hc2 hrow x6 x7 x8 x8a hbe;refine And.intro hS ?_;clear hS1
 repeat ((with_reducible show wpX _ _ _ _ _ _ _ _);(first|refine wpX_nil ?_|refine wpX_skip rfl ?_|refine wpX_mv rfl rfl (by kernel_rfl) (fun _ _=>?_)|refine wpX_ldC rfl rfl rfl (by exact Z2.out) (by assumption) (fun _ _=>?_)|refine wpX_ef' rfl rfl rfl (fun _ _=>?_));go_wp2_with fail)
 clear hS Z2
 go_loopw [6,85] (fun _ i wr=>∃ (k:Nat) (us2:List Value) (rs2:List Look),i = .int .i64 k∧US.drop k=us2∧k≤US.length∧Kids bc w us2 rs2∧orL rs2=orL rs∧Chg [] w2 wr) (fun _ i _=>US.length - (intOf i).toNat)
 case atStart=>exact⟨0,US,rs,rfl,rfl,Nat.zero_le _,HKS.out,rfl,Chg.refl _ _⟩
 case round=>
  obtain⟨k,us2,rs2,rfl,hdr,hkl,hks,htot,hcr⟩:=hrel;have HCR:=zh hcr;by_cases hlt : k < 2 + vs.length
  ·obtain⟨x,hx⟩ : ∃ x,US[k]?=some x:=⟨US[k]'(by omega),List.getElem?_eq_getElem (by omega)⟩
   have hd2 : us2=x :: US.drop (k + 1):=by
    rw [← hdr,List.drop_eq_getElem_cons (by omega)]
    congr 1
    rw [List.getElem?_eq_getElem (by omega)] at hx;exact Option.some.inj hx
   rw [hd2] at hks;obtain⟨r,rs3,rfl,hkid,hks⟩:=hks;obtain⟨rb,ro,rfl,hcell⟩:=HROW.out.at_ (by omega);have d0:=hcr.cellSome (hcell k x hx) (by simp);have HKS:=zh hks;have HTOT:=zh htot;clear hdr hd2 hks hcell hx htot hcr;rcases hkid with⟨rfl,rfl⟩|⟨b,rfl,hcall⟩
   ·go_wp2_with fail
    exact⟨⟨k + 1,_,rs3,by go_num,rfl,by omega,HKS.out,HTOT.out,HCR.out⟩,by simp [intOf];omega⟩
   ·have HCALL:=zh (hcall wr (HCW.out.then HCR.out))
    clear hcall;cases r with
    | none=>
     go_wp2_with fail;refine HCALL.out.mono ?_;rintro _ w4 ⟨hc4,rfl⟩;have HC4:=zh (HCR.out.then hc4);clear hc4;go_wp2_with fail;exact⟨⟨k + 1,_,rs3,by go_num,rfl,by omega,HKS.out,HTOT.out,HC4.out⟩,by simp [intOf];omega⟩
    | some y=>
     obtain⟨en,q⟩:=y;go_wp2_with fail;refine HCALL.out.mono ?_;rintro _ w4 ⟨hc4,b9,rfl,hl9,hb9⟩;have HC4:=zh ((HCW.out.then HCR.out).then hc4);have HB9:=zh hb9;have HL9:=zh hl9;have hsz:=(HCW.out.then HCR.out).size;clear hc4 hb9 hl9;go_wp2_with fail;rw [HTG.out,← HTOT.out,orL_cons];exact⟨rfl,HC4.out,b9,rfl,by have:=HL9.out;omega,HB9.out⟩
  ·have hde : us2=[]:=by rw [← hdr];exact List.drop_eq_nil_of_le (by omega)
   rw [hde] at hks;have hrs : rs2=[]:=hks;have HTOT:=zh (show orL rs=none by rw [← htot,hrs];rfl);clear hdr hde hks hrs htot hcr;go_wp2_with fail;refine bodyPost_end (results_none rfl _ _ _) rfl ?_;rw [HTG.out,HTOT.out];exact⟨HCW.out.then HCR.out,rfl⟩
theorem expr_n5 (bc be p:Nat) (c2 c5:Value) (ou ov:Option Addr) (m n:List UInt8) (a:Option Addr) (kk:Nat) (vs:List Value) (rs:List Look) (w:World) (hx:Blk w be #[.int .i64 5,.int .i64 p,c2,str m,str n,c5,.pointer ou,.pointer ov,.slice a vs.length kk] 192) (hat:At w a vs) (hfew : vs.length≤1000) (hks:Kids bc w (.pointer ou :: .pointer ov :: vs) rs) :
  Calls Tryz.prog 138 #[ptr bc,ptr be] w (Looked [] w (orL rs)):=by
 have HX:=zh hx;have HAT:=zh hat;have HKS:=zh hks;have HCW:=zh (Chg.refl [] w);clear hx hat hks;obtain⟨tgt,htgt⟩ : ∃ t,t=orL rs:=⟨_,rfl⟩
 rw [← htgt];have HTG:=zh htgt;clear htgt;have x0 : w.cell? ⟨be,0,none⟩=_:=HX.out.cell 0 _ rfl
 go_enter Tryz.func138,Tryz.ntmps138
 go_wp2_with fail;clear x0;obtain⟨wD,hwD⟩ : ∃ x,x=w.drew:=⟨_,rfl⟩
 have hWD:Chg [] w wD:=by rw [hwD];exact(Chg.refl [] w).drew
 have HX:=zh (HX.out.kept hWD (by simp));have HCW:=zh (HCW.out.then hWD);clear hWD;have x6 : wD.cell? ⟨be,6,none⟩=_:=HX.out.cell 6 _ rfl;have x7 : wD.cell? ⟨be,7,none⟩=_:=HX.out.cell 7 _ rfl;have x8 : wD.cell? ⟨be,8,none⟩=_:=HX.out.cell 8 _ rfl;have Z2:=zh (Zone.of (X:=[]) (w0:=wD) x6 (by simp));have hown : (wD.alloc (.cells #[.pointer ou,.pointer ov] 166)).ownsRow 0 166 1 (.slice (some ⟨wD.heap.size,0,none⟩) 2 2) 2 [.pointer ou,.pointer ov]:=⟨rfl,.inr ⟨wD.heap.size,2,#[.pointer ou,.pointer ov],rfl,Nat.zero_le _,heap_alloc_new wD _,Nat.le_refl _,by unfold maxLen;omega,rfl,rfl⟩⟩;have HOWN:=zh hown;have hca:Chg [] wD (wD.alloc (.cells #[.pointer ou,.pointer ov] 166)):=(Chg.refl _ _).alloc _;have HATD:=zh (show At (wD.alloc (.cells #[.pointer ou,.pointer ov] 166)) a vs from HAT.out.kept (HCW.out.then hca) (fun p hp hm=>by simp at hm));have HONE:=zh (show ∀ x∈vs,x.oneCell'=true from fun x hx=>HKS.out.one x (by simp [hx]));obtain⟨US,hUS⟩ : ∃ U,U=[.pointer ou,.pointer ov] ++ vs:=⟨_,rfl⟩
 have hUL:US.length=2 + vs.length:=by rw [hUS];simp;omega
 have HKS:=zh (show Kids bc w US rs by rw [hUS];exact HKS.out);have HUS:=zh hUS;have hbe : be≠wD.heap.size:=by have:=HX.out.lt;omega
 have x8a:=hca.cellSome x8 (by simp);clear hown hca hUS;refine wp_region_C [] rfl (by kernel_rfl) ?_;rw [← hwD];clear hwD;have hS:Chg [] wD wD:=Chg.refl _ _
 repeat ((with_reducible show wpX _ _ _ _ _ _ _ _);(first|refine wpX_nil ?_|refine wpX_skip rfl ?_|refine wpX_mv rfl rfl (by kernel_rfl) (fun _ _=>?_)|refine wpX_ldC rfl rfl rfl (by exact Z2.out) (by assumption) (fun _ _=>?_)|refine wpX_ef' rfl rfl rfl (fun _ _=>?_));go_wp2_with fail)
 refine And.intro (hS.alloc _) ?_;have hS1:Chg [] wD (wD.alloc (.cells #[.pointer ou,.pointer ov] 166)):=hS.alloc _
 repeat ((with_reducible show wpX _ _ _ _ _ _ _ _);(first|refine wpX_nil ?_|refine wpX_skip rfl ?_|refine wpX_mv rfl rfl (by kernel_rfl) (fun _ _=>?_)|refine wpX_ldC rfl rfl rfl (by exact Z2.out) (by assumption) (fun _ _=>?_)|refine wpX_ef' rfl rfl rfl (fun _ _=>?_));go_wp2_with fail)
 refine wpX_append_any _ _ 190 rfl rfl rfl 166 (.pointer none) 1 8 infoPtr Tryz.underlying190 rfl (by decide) (.slice (some ⟨wD.heap.size,0,none⟩) 2 2) 2 [.pointer ou,.pointer ov] rfl HOWN.out a vs.length kk vs rfl (by simp) HATD.out HONE.out (by omega) (by unfold maxLen;omega) ?_;intro v2 w2 ho2 hc2 _;have hS:Chg [] wD w2:=((Chg.refl [] wD).alloc _).trans hc2 (fun x hx=>.inr (by simp [blk] at hx;omega));rw [← HUS.out] at ho2;obtain⟨ra,rc,rfl,hrc,hrow⟩:=Row.of_owns ho2 (F:=fun _=>True) (fun _ _=>trivial);have HROW:=zh hrow;have HCW:=zh (HCW.out.then hS);clear ho2 hc2 hrow x6 x7 x8 x8a hbe;refine And.intro hS ?_;clear hS1
 repeat ((with_reducible show wpX _ _ _ _ _ _ _ _);(first|refine wpX_nil ?_|refine wpX_skip rfl ?_|refine wpX_mv rfl rfl (by kernel_rfl) (fun _ _=>?_)|refine wpX_ldC rfl rfl rfl (by exact Z2.out) (by assumption) (fun _ _=>?_)|refine wpX_ef' rfl rfl rfl (fun _ _=>?_));go_wp2_with fail)
 clear hS Z2
 go_loopw [6,85] (fun _ i wr=>∃ (k:Nat) (us2:List Value) (rs2:List Look),i = .int .i64 k∧US.drop k=us2∧k≤US.length∧Kids bc w us2 rs2∧orL rs2=orL rs∧Chg [] w2 wr) (fun _ i _=>US.length - (intOf i).toNat)
 case atStart=>exact⟨0,US,rs,rfl,rfl,Nat.zero_le _,HKS.out,rfl,Chg.refl _ _⟩
 case round=>
  obtain⟨k,us2,rs2,rfl,hdr,hkl,hks,htot,hcr⟩:=hrel;have HCR:=zh hcr;by_cases hlt : k < 2 + vs.length
  ·obtain⟨x,hx⟩ : ∃ x,US[k]?=some x:=⟨US[k]'(by omega),List.getElem?_eq_getElem (by omega)⟩
   have hd2 : us2=x :: US.drop (k + 1):=by
    rw [← hdr,List.drop_eq_getElem_cons (by omega)]
    congr 1
    rw [List.getElem?_eq_getElem (by omega)] at hx;exact Option.some.inj hx
   rw [hd2] at hks;obtain⟨r,rs3,rfl,hkid,hks⟩:=hks;obtain⟨rb,ro,rfl,hcell⟩:=HROW.out.at_ (by omega);have d0:=hcr.cellSome (hcell k x hx) (by simp);have HKS:=zh hks;have HTOT:=zh htot;clear hdr hd2 hks hcell hx htot hcr;rcases hkid with⟨rfl,rfl⟩|⟨b,rfl,hcall⟩
   ·go_wp2_with fail
    exact⟨⟨k + 1,_,rs3,by go_num,rfl,by omega,HKS.out,HTOT.out,HCR.out⟩,by simp [intOf];omega⟩
   ·have HCALL:=zh (hcall wr (HCW.out.then HCR.out))
    clear hcall;cases r with
    | none=>
     go_wp2_with fail;refine HCALL.out.mono ?_;rintro _ w4 ⟨hc4,rfl⟩;have HC4:=zh (HCR.out.then hc4);clear hc4;go_wp2_with fail;exact⟨⟨k + 1,_,rs3,by go_num,rfl,by omega,HKS.out,HTOT.out,HC4.out⟩,by simp [intOf];omega⟩
    | some y=>
     obtain⟨en,q⟩:=y;go_wp2_with fail;refine HCALL.out.mono ?_;rintro _ w4 ⟨hc4,b9,rfl,hl9,hb9⟩;have HC4:=zh ((HCW.out.then HCR.out).then hc4);have HB9:=zh hb9;have HL9:=zh hl9;have hsz:=(HCW.out.then HCR.out).size;clear hc4 hb9 hl9;go_wp2_with fail;rw [HTG.out,← HTOT.out,orL_cons];exact⟨rfl,HC4.out,b9,rfl,by have:=HL9.out;omega,HB9.out⟩
  ·have hde : us2=[]:=by rw [← hdr];exact List.drop_eq_nil_of_le (by omega)
   rw [hde] at hks;have hrs : rs2=[]:=hks;have HTOT:=zh (show orL rs=none by rw [← htot,hrs];rfl);clear hdr hde hks hrs htot hcr;go_wp2_with fail;refine bodyPost_end (results_none rfl _ _ _) rfl ?_;rw [HTG.out,HTOT.out];exact⟨HCW.out.then HCR.out,rfl⟩
theorem expr_n2 (c:Env) (F:Nat→Prop) (bc be p:Nat) (c2 c5:Value) (ou ov:Option Addr) (m n:List UInt8) (a:Option Addr) (kk:Nat) (vs:List Value) (rs:List Look) (w:World) (hx:Blk w be #[.int .i64 2,.int .i64 p,c2,str m,str n,c5,.pointer ou,.pointer ov,.slice a vs.length kk] 192) (hat:At w a vs) (hfew : vs.length≤1000) (hks:Kids bc w (.pointer ou :: .pointer ov :: vs) rs) (hE:EnvAt w F c bc) :
  Calls Tryz.prog 138 #[ptr bc,ptr be] w (Looked [] w ((nameL c p m n fun s=>if 0≤s.args∨0 < s.len then some (1,p) else none).or (orL rs))):=by
 have HFD:=zh (cfind_any c bc be p m n (.int .i64 2) c2 c5 (.pointer ou) (.pointer ov) (.slice a vs.length kk) F w hE hx);clear hE;have HX:=zh hx;have HAT:=zh hat;have HKS:=zh hks;have HCW:=zh (Chg.refl [] w);clear hx hat hks;obtain⟨tgt,htgt⟩ : ∃ t,t=(nameL c p m n fun s=>if 0≤s.args∨0 < s.len then some (1,p) else none).or (orL rs):=⟨_,rfl⟩
 rw [← htgt];have HT0:=zh htgt;clear htgt;cases hf : c.find p m n with
 | bad en q=>
  rw [hf] at HFD;have HTG:=zh (show tgt=some (en,q) by rw [HT0.out,nameL,hf] <;> rfl);clear hf;have x0 : w.cell? ⟨be,0,none⟩=_:=HX.out.cell 0 _ rfl
  go_enter Tryz.func138,Tryz.ntmps138
  go_wp2_with fail;refine HFD.out.mono ?_;rintro _ w9 ⟨hc,b9,rfl,hl9,hb9⟩;have HC9:=zh hc;have HB9:=zh hb9;have HL9:=zh hl9;clear hc hb9 hl9;go_wp2_with fail;rw [HTG.out];exact⟨rfl,HC9.out,b9,rfl,HL9.out,HB9.out⟩
 | is s=>
  rw [hf] at HFD;cases ha : decide (0≤s.args) with
  | true=>
   have han : 0≤s.args:=by simpa using ha
   have HTG:=zh (show tgt=some (1,p) by rw [HT0.out,nameL,hf];simp [han]);clear hf han;have x0 : w.cell? ⟨be,0,none⟩=_:=HX.out.cell 0 _ rfl
   go_enter Tryz.func138,Tryz.ntmps138
   go_wp2_with fail;refine HFD.out.mono ?_;rintro _ w2 ⟨hc2,rfl⟩;have hWD:Chg [] w w2:=hc2;have HX:=zh (HX.out.kept hWD (by simp));have HCW:=zh (HCW.out.then hWD);clear hWD;clear hc2 x0;have hz:=Blk.new w2 #[str [],.int .i64 0,.int .i64 0] 185;obtain⟨wA,hwA⟩ : ∃ w',w2.alloc (.cells #[str [],.int .i64 0,.int .i64 0] 185)=w':=⟨_,rfl⟩
   rw [hwA] at hz;have hcA:Chg [] w2 wA:=by rw [← hwA];exact(Chg.refl _ _).alloc _
   obtain⟨wF,hwF,hcF,hbF⟩:=set3 (str s.name) (.int .i64 s.len) (.int .i64 s.args) hz;have hcF':Chg [] w2 wF:=hcA.trans hcF (fun x hx=>.inr (by simp at hx;omega));have z0:=hz.cell 0 _ rfl;have z1:=hz.cell 1 _ rfl;have z2:=hz.cell 2 _ rfl;have y0:=hz.frozen 0;have y1:=hz.frozen 1;have y2:=hz.frozen 2;have HSB:=zh hbF;have hWD:Chg [] w2 wF:=hcF';have HX:=zh (HX.out.kept hWD (by simp));have HCW:=zh (HCW.out.then hWD);clear hWD;clear hcA hcF hbF hz hcF';go_wp2_with fail;clear z0 z1 z2 y0 y1 y2 hwA hwF;obtain⟨wP,hwD⟩ : ∃ x,x=wF.drew:=⟨_,rfl⟩
   have HSB:=zh (show Blk wP w2.heap.size #[str s.name,.int .i64 s.len,.int .i64 s.args] 185 by rw [hwD];exact HSB.out);have hWD:Chg [] wF wP:=by rw [hwD];exact(Chg.refl [] wF).drew
   have HX:=zh (HX.out.kept hWD (by simp));have HCW:=zh (HCW.out.then hWD);clear hWD;have x0 : wP.cell? ⟨be,0,none⟩=_:=HX.out.cell 0 _ rfl;have x1 : wP.cell? ⟨be,1,none⟩=_:=HX.out.cell 1 _ rfl;have s1 : wP.cell? ⟨w2.heap.size,1,none⟩=_:=HSB.out.cell 1 _ rfl;have s2 : wP.cell? ⟨w2.heap.size,2,none⟩=_:=HSB.out.cell 2 _ rfl;have Z1:=zh (Zone.of (X:=[]) (w0:=wP) s1 (by simp));have Z2:=zh (Zone.of (X:=[]) (w0:=wP) x0 (by simp));refine wp_region_C [] rfl (by kernel_rfl) ?_;rw [← hwD];clear hwD;have hS:Chg [] wP wP:=Chg.refl _ _
   repeat ((with_reducible show wpX _ _ _ _ _ _ _ _);(first|refine wpX_nil ?_|refine wpX_skip rfl ?_|refine wpX_mv rfl rfl (by kernel_rfl) (fun _ _=>?_)|refine wpX_ldC rfl rfl rfl (by first|exact Z1.out|exact Z2.out) (by assumption) (fun _ _=>?_)|refine wpX_ef' rfl rfl rfl (fun _ _=>?_));go_wp2_with fail)
   go_wp2_with fail;refine(cfail_any 1 p wP).mono ?_;rintro _ w9 ⟨hc,b9,rfl,hl9,hb9⟩;have HC9:=zh (HCW.out.then hc);have HB9:=zh hb9;have HL9:=zh hl9;have hsz:=HCW.out.size;clear hc hb9 hl9;go_wp2_with fail;rw [HTG.out];exact⟨rfl,HC9.out,b9,rfl,by have:=HL9.out;omega,HB9.out⟩
  | false=>
   have han : ¬ 0≤s.args:=by simpa using ha
   cases hb : decide (0 < s.len) with
   | true=>
    have hbn : 0 < s.len:=by simpa using hb
    have HTG:=zh (show tgt=some (1,p) by rw [HT0.out,nameL,hf];simp [han,hbn]);clear hf han hbn;have x0 : w.cell? ⟨be,0,none⟩=_:=HX.out.cell 0 _ rfl
    go_enter Tryz.func138,Tryz.ntmps138
    go_wp2_with fail;refine HFD.out.mono ?_;rintro _ w2 ⟨hc2,rfl⟩;have hWD:Chg [] w w2:=hc2;have HX:=zh (HX.out.kept hWD (by simp));have HCW:=zh (HCW.out.then hWD);clear hWD;clear hc2 x0;have hz:=Blk.new w2 #[str [],.int .i64 0,.int .i64 0] 185;obtain⟨wA,hwA⟩ : ∃ w',w2.alloc (.cells #[str [],.int .i64 0,.int .i64 0] 185)=w':=⟨_,rfl⟩
    rw [hwA] at hz;have hcA:Chg [] w2 wA:=by rw [← hwA];exact(Chg.refl _ _).alloc _
    obtain⟨wF,hwF,hcF,hbF⟩:=set3 (str s.name) (.int .i64 s.len) (.int .i64 s.args) hz;have hcF':Chg [] w2 wF:=hcA.trans hcF (fun x hx=>.inr (by simp at hx;omega));have z0:=hz.cell 0 _ rfl;have z1:=hz.cell 1 _ rfl;have z2:=hz.cell 2 _ rfl;have y0:=hz.frozen 0;have y1:=hz.frozen 1;have y2:=hz.frozen 2;have HSB:=zh hbF;have hWD:Chg [] w2 wF:=hcF';have HX:=zh (HX.out.kept hWD (by simp));have HCW:=zh (HCW.out.then hWD);clear hWD;clear hcA hcF hbF hz hcF';go_wp2_with fail;clear z0 z1 z2 y0 y1 y2 hwA hwF;obtain⟨wP,hwD⟩ : ∃ x,x=wF.drew:=⟨_,rfl⟩
    have HSB:=zh (show Blk wP w2.heap.size #[str s.name,.int .i64 s.len,.int .i64 s.args] 185 by rw [hwD];exact HSB.out);have hWD:Chg [] wF wP:=by rw [hwD];exact(Chg.refl [] wF).drew
    have HX:=zh (HX.out.kept hWD (by simp));have HCW:=zh (HCW.out.then hWD);clear hWD;have x0 : wP.cell? ⟨be,0,none⟩=_:=HX.out.cell 0 _ rfl;have s1 : wP.cell? ⟨w2.heap.size,1,none⟩=_:=HSB.out.cell 1 _ rfl;have s2 : wP.cell? ⟨w2.heap.size,2,none⟩=_:=HSB.out.cell 2 _ rfl;have Z1:=zh (Zone.of (X:=[]) (w0:=wP) s1 (by simp));have Z2:=zh (Zone.of (X:=[]) (w0:=wP) x0 (by simp));refine wp_region_C [] rfl (by kernel_rfl) ?_;rw [← hwD];clear hwD;have hS:Chg [] wP wP:=Chg.refl _ _
    repeat ((with_reducible show wpX _ _ _ _ _ _ _ _);(first|refine wpX_nil ?_|refine wpX_skip rfl ?_|refine wpX_mv rfl rfl (by kernel_rfl) (fun _ _=>?_)|refine wpX_ldC rfl rfl rfl (by first|exact Z1.out|exact Z2.out) (by assumption) (fun _ _=>?_)|refine wpX_ef' rfl rfl rfl (fun _ _=>?_));go_wp2_with fail)
    go_wp2_with fail;clear s1 s2 Z1 Z2 hS x0;obtain⟨wQ,hwD⟩ : ∃ x,x=wP.drew:=⟨_,rfl⟩
    have HSB:=zh (show Blk wQ w2.heap.size #[str s.name,.int .i64 s.len,.int .i64 s.args] 185 by rw [hwD];exact HSB.out);have hWD:Chg [] wP wQ:=by rw [hwD];exact(Chg.refl [] wP).drew
    have HX:=zh (HX.out.kept hWD (by simp));have HCW:=zh (HCW.out.then hWD);clear hWD;have x0 : wQ.cell? ⟨be,0,none⟩=_:=HX.out.cell 0 _ rfl;have x1 : wQ.cell? ⟨be,1,none⟩=_:=HX.out.cell 1 _ rfl;have s1 : wQ.cell? ⟨w2.heap.size,1,none⟩=_:=HSB.out.cell 1 _ rfl;have s2 : wQ.cell? ⟨w2.heap.size,2,none⟩=_:=HSB.out.cell 2 _ rfl;have Z1:=zh (Zone.of (X:=[]) (w0:=wQ) s1 (by simp));have Z2:=zh (Zone.of (X:=[]) (w0:=wQ) x0 (by simp));refine wp_region_C [] rfl (by kernel_rfl) ?_;rw [← hwD];clear hwD;have hS:Chg [] wQ wQ:=Chg.refl _ _
    repeat ((with_reducible show wpX _ _ _ _ _ _ _ _);(first|refine wpX_nil ?_|refine wpX_skip rfl ?_|refine wpX_mv rfl rfl (by kernel_rfl) (fun _ _=>?_)|refine wpX_ldC rfl rfl rfl (by first|exact Z1.out|exact Z2.out) (by assumption) (fun _ _=>?_)|refine wpX_ef' rfl rfl rfl (fun _ _=>?_));go_wp2_with fail)
    go_wp2_with fail;refine(cfail_any 1 p wQ).mono ?_;rintro _ w9 ⟨hc,b9,rfl,hl9,hb9⟩;have HC9:=zh (HCW.out.then hc);have HB9:=zh hb9;have HL9:=zh hl9;have hsz:=HCW.out.size;clear hc hb9 hl9;go_wp2_with fail;rw [HTG.out];exact⟨rfl,HC9.out,b9,rfl,by have:=HL9.out;omega,HB9.out⟩
   | false=>
    have hbn : ¬ 0 < s.len:=by simpa using hb
    have HTG:=zh (show tgt=orL rs by rw [HT0.out,nameL,hf];simp [han,hbn]);clear hf han hbn;have x0 : w.cell? ⟨be,0,none⟩=_:=HX.out.cell 0 _ rfl
    go_enter Tryz.func138,Tryz.ntmps138
    go_wp2_with fail;refine HFD.out.mono ?_;rintro _ w2 ⟨hc2,rfl⟩;have hWD:Chg [] w w2:=hc2;have HX:=zh (HX.out.kept hWD (by simp));have HCW:=zh (HCW.out.then hWD);clear hWD;clear hc2 x0;have hz:=Blk.new w2 #[str [],.int .i64 0,.int .i64 0] 185;obtain⟨wA,hwA⟩ : ∃ w',w2.alloc (.cells #[str [],.int .i64 0,.int .i64 0] 185)=w':=⟨_,rfl⟩
    rw [hwA] at hz;have hcA:Chg [] w2 wA:=by rw [← hwA];exact(Chg.refl _ _).alloc _
    obtain⟨wF,hwF,hcF,hbF⟩:=set3 (str s.name) (.int .i64 s.len) (.int .i64 s.args) hz;have hcF':Chg [] w2 wF:=hcA.trans hcF (fun x hx=>.inr (by simp at hx;omega));have z0:=hz.cell 0 _ rfl;have z1:=hz.cell 1 _ rfl;have z2:=hz.cell 2 _ rfl;have y0:=hz.frozen 0;have y1:=hz.frozen 1;have y2:=hz.frozen 2;have HSB:=zh hbF;have hWD:Chg [] w2 wF:=hcF';have HX:=zh (HX.out.kept hWD (by simp));have HCW:=zh (HCW.out.then hWD);clear hWD;clear hcA hcF hbF hz hcF';go_wp2_with fail;clear z0 z1 z2 y0 y1 y2 hwA hwF;obtain⟨wP,hwD⟩ : ∃ x,x=wF.drew:=⟨_,rfl⟩
    have HSB:=zh (show Blk wP w2.heap.size #[str s.name,.int .i64 s.len,.int .i64 s.args] 185 by rw [hwD];exact HSB.out);have hWD:Chg [] wF wP:=by rw [hwD];exact(Chg.refl [] wF).drew
    have HX:=zh (HX.out.kept hWD (by simp));have HCW:=zh (HCW.out.then hWD);clear hWD;have x0 : wP.cell? ⟨be,0,none⟩=_:=HX.out.cell 0 _ rfl;have s1 : wP.cell? ⟨w2.heap.size,1,none⟩=_:=HSB.out.cell 1 _ rfl;have s2 : wP.cell? ⟨w2.heap.size,2,none⟩=_:=HSB.out.cell 2 _ rfl;have Z1:=zh (Zone.of (X:=[]) (w0:=wP) s1 (by simp));have Z2:=zh (Zone.of (X:=[]) (w0:=wP) x0 (by simp));refine wp_region_C [] rfl (by kernel_rfl) ?_;rw [← hwD];clear hwD;have hS:Chg [] wP wP:=Chg.refl _ _
    repeat ((with_reducible show wpX _ _ _ _ _ _ _ _);(first|refine wpX_nil ?_|refine wpX_skip rfl ?_|refine wpX_mv rfl rfl (by kernel_rfl) (fun _ _=>?_)|refine wpX_ldC rfl rfl rfl (by first|exact Z1.out|exact Z2.out) (by assumption) (fun _ _=>?_)|refine wpX_ef' rfl rfl rfl (fun _ _=>?_));go_wp2_with fail)
    go_wp2_with fail;clear s1 s2 Z1 Z2 hS x0;obtain⟨wQ,hwD⟩ : ∃ x,x=wP.drew:=⟨_,rfl⟩
    have HSB:=zh (show Blk wQ w2.heap.size #[str s.name,.int .i64 s.len,.int .i64 s.args] 185 by rw [hwD];exact HSB.out);have hWD:Chg [] wP wQ:=by rw [hwD];exact(Chg.refl [] wP).drew
    have HX:=zh (HX.out.kept hWD (by simp));have HCW:=zh (HCW.out.then hWD);clear hWD;have x0 : wQ.cell? ⟨be,0,none⟩=_:=HX.out.cell 0 _ rfl;have x1 : wQ.cell? ⟨be,1,none⟩=_:=HX.out.cell 1 _ rfl;have s1 : wQ.cell? ⟨w2.heap.size,1,none⟩=_:=HSB.out.cell 1 _ rfl;have s2 : wQ.cell? ⟨w2.heap.size,2,none⟩=_:=HSB.out.cell 2 _ rfl;have Z1:=zh (Zone.of (X:=[]) (w0:=wQ) s1 (by simp));have Z2:=zh (Zone.of (X:=[]) (w0:=wQ) x0 (by simp));refine wp_region_C [] rfl (by kernel_rfl) ?_;rw [← hwD];clear hwD;have hS:Chg [] wQ wQ:=Chg.refl _ _
    repeat ((with_reducible show wpX _ _ _ _ _ _ _ _);(first|refine wpX_nil ?_|refine wpX_skip rfl ?_|refine wpX_mv rfl rfl (by kernel_rfl) (fun _ _=>?_)|refine wpX_ldC rfl rfl rfl (by first|exact Z1.out|exact Z2.out) (by assumption) (fun _ _=>?_)|refine wpX_ef' rfl rfl rfl (fun _ _=>?_));go_wp2_with fail)
    go_wp2_with fail;clear s1 s2 Z1 Z2 hS x0 x1;obtain⟨wR,hwD⟩ : ∃ x,x=wQ.drew:=⟨_,rfl⟩
    have HSB:=zh (show Blk wR w2.heap.size #[str s.name,.int .i64 s.len,.int .i64 s.args] 185 by rw [hwD];exact HSB.out);have hWD:Chg [] wQ wR:=by rw [hwD];exact(Chg.refl [] wQ).drew
    have HX:=zh (HX.out.kept hWD (by simp));have HCW:=zh (HCW.out.then hWD);clear hWD;have x0 : wR.cell? ⟨be,0,none⟩=_:=HX.out.cell 0 _ rfl;have s1 : wR.cell? ⟨w2.heap.size,1,none⟩=_:=HSB.out.cell 1 _ rfl;have s2 : wR.cell? ⟨w2.heap.size,2,none⟩=_:=HSB.out.cell 2 _ rfl;have Z1:=zh (Zone.of (X:=[]) (w0:=wR) s1 (by simp));have Z2:=zh (Zone.of (X:=[]) (w0:=wR) x0 (by simp));refine wp_region_C [] rfl (by kernel_rfl) ?_;rw [← hwD];clear hwD;have hS:Chg [] wR wR:=Chg.refl _ _
    repeat ((with_reducible show wpX _ _ _ _ _ _ _ _);(first|refine wpX_nil ?_|refine wpX_skip rfl ?_|refine wpX_mv rfl rfl (by kernel_rfl) (fun _ _=>?_)|refine wpX_ldC rfl rfl rfl (by first|exact Z1.out|exact Z2.out) (by assumption) (fun _ _=>?_)|refine wpX_ef' rfl rfl rfl (fun _ _=>?_));go_wp2_with fail)
    go_wp2_with fail;clear s1 s2 Z1 Z2 hS x0;obtain⟨wD,hwD⟩ : ∃ x,x=wR.drew:=⟨_,rfl⟩
    have hWD:Chg [] wR wD:=by rw [hwD];exact(Chg.refl [] wR).drew
    have HX:=zh (HX.out.kept hWD (by simp));have HCW:=zh (HCW.out.then hWD);clear hWD;have x6 : wD.cell? ⟨be,6,none⟩=_:=HX.out.cell 6 _ rfl;have x7 : wD.cell? ⟨be,7,none⟩=_:=HX.out.cell 7 _ rfl;have x8 : wD.cell? ⟨be,8,none⟩=_:=HX.out.cell 8 _ rfl;have Z2:=zh (Zone.of (X:=[]) (w0:=wD) x6 (by simp));have hown : (wD.alloc (.cells #[.pointer ou,.pointer ov] 166)).ownsRow 0 166 1 (.slice (some ⟨wD.heap.size,0,none⟩) 2 2) 2 [.pointer ou,.pointer ov]:=⟨rfl,.inr ⟨wD.heap.size,2,#[.pointer ou,.pointer ov],rfl,Nat.zero_le _,heap_alloc_new wD _,Nat.le_refl _,by unfold maxLen;omega,rfl,rfl⟩⟩;have HOWN:=zh hown;have hca:Chg [] wD (wD.alloc (.cells #[.pointer ou,.pointer ov] 166)):=(Chg.refl _ _).alloc _;have HATD:=zh (show At (wD.alloc (.cells #[.pointer ou,.pointer ov] 166)) a vs from HAT.out.kept (HCW.out.then hca) (fun p hp hm=>by simp at hm));have HONE:=zh (show ∀ x∈vs,x.oneCell'=true from fun x hx=>HKS.out.one x (by simp [hx]));obtain⟨US,hUS⟩ : ∃ U,U=[.pointer ou,.pointer ov] ++ vs:=⟨_,rfl⟩
    have hUL:US.length=2 + vs.length:=by rw [hUS];simp;omega
    have HKS:=zh (show Kids bc w US rs by rw [hUS];exact HKS.out);have HUS:=zh hUS;have hbe : be≠wD.heap.size:=by have:=HX.out.lt;omega
    have x8a:=hca.cellSome x8 (by simp);clear hown hca hUS;refine wp_region_C [] rfl (by kernel_rfl) ?_;rw [← hwD];clear hwD;have hS:Chg [] wD wD:=Chg.refl _ _
    repeat ((with_reducible show wpX _ _ _ _ _ _ _ _);(first|refine wpX_nil ?_|refine wpX_skip rfl ?_|refine wpX_mv rfl rfl (by kernel_rfl) (fun _ _=>?_)|refine wpX_ldC rfl rfl rfl (by exact Z2.out) (by assumption) (fun _ _=>?_)|refine wpX_ef' rfl rfl rfl (fun _ _=>?_));go_wp2_with fail)
    refine And.intro (hS.alloc _) ?_;have hS1:Chg [] wD (wD.alloc (.cells #[.pointer ou,.pointer ov] 166)):=hS.alloc _
    repeat ((with_reducible show wpX _ _ _ _ _ _ _ _);(first|refine wpX_nil ?_|refine wpX_skip rfl ?_|refine wpX_mv rfl rfl (by kernel_rfl) (fun _ _=>?_)|refine wpX_ldC rfl rfl rfl (by exact Z2.out) (by assumption) (fun _ _=>?_)|refine wpX_ef' rfl rfl rfl (fun _ _=>?_));go_wp2_with fail)
    refine wpX_append_any _ _ 190 rfl rfl rfl 166 (.pointer none) 1 8 infoPtr Tryz.underlying190 rfl (by decide) (.slice (some ⟨wD.heap.size,0,none⟩) 2 2) 2 [.pointer ou,.pointer ov] rfl HOWN.out a vs.length kk vs rfl (by simp) HATD.out HONE.out (by omega) (by unfold maxLen;omega) ?_;intro v2 w2 ho2 hc2 _;have hS:Chg [] wD w2:=((Chg.refl [] wD).alloc _).trans hc2 (fun x hx=>.inr (by simp [blk] at hx;omega));rw [← HUS.out] at ho2;obtain⟨ra,rc,rfl,hrc,hrow⟩:=Row.of_owns ho2 (F:=fun _=>True) (fun _ _=>trivial);have HROW:=zh hrow;have HCW:=zh (HCW.out.then hS);clear ho2 hc2 hrow x6 x7 x8 x8a hbe;refine And.intro hS ?_;clear hS1
    repeat ((with_reducible show wpX _ _ _ _ _ _ _ _);(first|refine wpX_nil ?_|refine wpX_skip rfl ?_|refine wpX_mv rfl rfl (by kernel_rfl) (fun _ _=>?_)|refine wpX_ldC rfl rfl rfl (by exact Z2.out) (by assumption) (fun _ _=>?_)|refine wpX_ef' rfl rfl rfl (fun _ _=>?_));go_wp2_with fail)
    clear hS Z2
    go_loopw [6,85] (fun _ i wr=>∃ (k:Nat) (us2:List Value) (rs2:List Look),i = .int .i64 k∧US.drop k=us2∧k≤US.length∧Kids bc w us2 rs2∧orL rs2=orL rs∧Chg [] w2 wr) (fun _ i _=>US.length - (intOf i).toNat)
    case atStart=>exact⟨0,US,rs,rfl,rfl,Nat.zero_le _,HKS.out,rfl,Chg.refl _ _⟩
    case round=>
     obtain⟨k,us2,rs2,rfl,hdr,hkl,hks,htot,hcr⟩:=hrel;have HCR:=zh hcr;by_cases hlt : k < 2 + vs.length
     ·obtain⟨x,hx⟩ : ∃ x,US[k]?=some x:=⟨US[k]'(by omega),List.getElem?_eq_getElem (by omega)⟩
      have hd2 : us2=x :: US.drop (k + 1):=by
       rw [← hdr,List.drop_eq_getElem_cons (by omega)]
       congr 1
       rw [List.getElem?_eq_getElem (by omega)] at hx;exact Option.some.inj hx
      rw [hd2] at hks;obtain⟨r,rs3,rfl,hkid,hks⟩:=hks;obtain⟨rb,ro,rfl,hcell⟩:=HROW.out.at_ (by omega);have d0:=hcr.cellSome (hcell k x hx) (by simp);have HKS:=zh hks;have HTOT:=zh htot;clear hdr hd2 hks hcell hx htot hcr;rcases hkid with⟨rfl,rfl⟩|⟨b,rfl,hcall⟩
      ·go_wp2_with fail
       exact⟨⟨k + 1,_,rs3,by go_num,rfl,by omega,HKS.out,HTOT.out,HCR.out⟩,by simp [intOf];omega⟩
      ·have HCALL:=zh (hcall wr (HCW.out.then HCR.out))
       clear hcall;cases r with
       | none=>
        go_wp2_with fail;refine HCALL.out.mono ?_;rintro _ w4 ⟨hc4,rfl⟩;have HC4:=zh (HCR.out.then hc4);clear hc4;go_wp2_with fail;exact⟨⟨k + 1,_,rs3,by go_num,rfl,by omega,HKS.out,HTOT.out,HC4.out⟩,by simp [intOf];omega⟩
       | some y=>
        obtain⟨en,q⟩:=y;go_wp2_with fail;refine HCALL.out.mono ?_;rintro _ w4 ⟨hc4,b9,rfl,hl9,hb9⟩;have HC4:=zh ((HCW.out.then HCR.out).then hc4);have HB9:=zh hb9;have HL9:=zh hl9;have hsz:=(HCW.out.then HCR.out).size;clear hc4 hb9 hl9;go_wp2_with fail;rw [HTG.out,← HTOT.out,orL_cons];exact⟨rfl,HC4.out,b9,rfl,by have:=HL9.out;omega,HB9.out⟩
     ·have hde : us2=[]:=by rw [← hdr];exact List.drop_eq_nil_of_le (by omega)
      rw [hde] at hks;have hrs : rs2=[]:=hks;have HTOT:=zh (show orL rs=none by rw [← htot,hrs];rfl);clear hdr hde hks hrs htot hcr;go_wp2_with fail;refine bodyPost_end (results_none rfl _ _ _) rfl ?_;rw [HTG.out,HTOT.out];exact⟨HCW.out.then HCR.out,rfl⟩
theorem expr_n3 (c:Env) (F:Nat→Prop) (bc be p:Nat) (c2 c5:Value) (ou ov:Option Addr) (m n:List UInt8) (a:Option Addr) (kk:Nat) (vs:List Value) (rs:List Look) (w:World) (hx:Blk w be #[.int .i64 3,.int .i64 p,c2,str m,str n,c5,.pointer ou,.pointer ov,.slice a vs.length kk] 192) (hat:At w a vs) (hfew : vs.length≤1000) (hks:Kids bc w (.pointer ou :: .pointer ov :: vs) rs) (hE:EnvAt w F c bc) :
  Calls Tryz.prog 138 #[ptr bc,ptr be] w (Looked [] w ((nameL c p m n fun s=>if 0≤s.args∨¬ 0 < s.len then some (1,p) else none).or (orL rs))):=by
 have HFD:=zh (cfind_any c bc be p m n (.int .i64 3) c2 c5 (.pointer ou) (.pointer ov) (.slice a vs.length kk) F w hE hx);clear hE;have HX:=zh hx;have HAT:=zh hat;have HKS:=zh hks;have HCW:=zh (Chg.refl [] w);clear hx hat hks;obtain⟨tgt,htgt⟩ : ∃ t,t=(nameL c p m n fun s=>if 0≤s.args∨¬ 0 < s.len then some (1,p) else none).or (orL rs):=⟨_,rfl⟩
 rw [← htgt];have HT0:=zh htgt;clear htgt;cases hf : c.find p m n with
 | bad en q=>
  rw [hf] at HFD;have HTG:=zh (show tgt=some (en,q) by rw [HT0.out,nameL,hf] <;> rfl);clear hf;have x0 : w.cell? ⟨be,0,none⟩=_:=HX.out.cell 0 _ rfl
  go_enter Tryz.func138,Tryz.ntmps138
  go_wp2_with fail;refine HFD.out.mono ?_;rintro _ w9 ⟨hc,b9,rfl,hl9,hb9⟩;have HC9:=zh hc;have HB9:=zh hb9;have HL9:=zh hl9;clear hc hb9 hl9;go_wp2_with fail;rw [HTG.out];exact⟨rfl,HC9.out,b9,rfl,HL9.out,HB9.out⟩
 | is s=>
  rw [hf] at HFD;cases ha : decide (0≤s.args) with
  | true=>
   have han : 0≤s.args:=by simpa using ha
   have HTG:=zh (show tgt=some (1,p) by rw [HT0.out,nameL,hf];simp [han]);clear hf han;have x0 : w.cell? ⟨be,0,none⟩=_:=HX.out.cell 0 _ rfl
   go_enter Tryz.func138,Tryz.ntmps138
   go_wp2_with fail;refine HFD.out.mono ?_;rintro _ w2 ⟨hc2,rfl⟩;have hWD:Chg [] w w2:=hc2;have HX:=zh (HX.out.kept hWD (by simp));have HCW:=zh (HCW.out.then hWD);clear hWD;clear hc2 x0;have hz:=Blk.new w2 #[str [],.int .i64 0,.int .i64 0] 185;obtain⟨wA,hwA⟩ : ∃ w',w2.alloc (.cells #[str [],.int .i64 0,.int .i64 0] 185)=w':=⟨_,rfl⟩
   rw [hwA] at hz;have hcA:Chg [] w2 wA:=by rw [← hwA];exact(Chg.refl _ _).alloc _
   obtain⟨wF,hwF,hcF,hbF⟩:=set3 (str s.name) (.int .i64 s.len) (.int .i64 s.args) hz;have hcF':Chg [] w2 wF:=hcA.trans hcF (fun x hx=>.inr (by simp at hx;omega));have z0:=hz.cell 0 _ rfl;have z1:=hz.cell 1 _ rfl;have z2:=hz.cell 2 _ rfl;have y0:=hz.frozen 0;have y1:=hz.frozen 1;have y2:=hz.frozen 2;have HSB:=zh hbF;have hWD:Chg [] w2 wF:=hcF';have HX:=zh (HX.out.kept hWD (by simp));have HCW:=zh (HCW.out.then hWD);clear hWD;clear hcA hcF hbF hz hcF';go_wp2_with fail;clear z0 z1 z2 y0 y1 y2 hwA hwF;obtain⟨wP,hwD⟩ : ∃ x,x=wF.drew:=⟨_,rfl⟩
   have HSB:=zh (show Blk wP w2.heap.size #[str s.name,.int .i64 s.len,.int .i64 s.args] 185 by rw [hwD];exact HSB.out);have hWD:Chg [] wF wP:=by rw [hwD];exact(Chg.refl [] wF).drew
   have HX:=zh (HX.out.kept hWD (by simp));have HCW:=zh (HCW.out.then hWD);clear hWD;have x0 : wP.cell? ⟨be,0,none⟩=_:=HX.out.cell 0 _ rfl;have x1 : wP.cell? ⟨be,1,none⟩=_:=HX.out.cell 1 _ rfl;have s1 : wP.cell? ⟨w2.heap.size,1,none⟩=_:=HSB.out.cell 1 _ rfl;have s2 : wP.cell? ⟨w2.heap.size,2,none⟩=_:=HSB.out.cell 2 _ rfl;have Z1:=zh (Zone.of (X:=[]) (w0:=wP) s1 (by simp));have Z2:=zh (Zone.of (X:=[]) (w0:=wP) x0 (by simp));refine wp_region_C [] rfl (by kernel_rfl) ?_;rw [← hwD];clear hwD;have hS:Chg [] wP wP:=Chg.refl _ _
   repeat ((with_reducible show wpX _ _ _ _ _ _ _ _);(first|refine wpX_nil ?_|refine wpX_skip rfl ?_|refine wpX_mv rfl rfl (by kernel_rfl) (fun _ _=>?_)|refine wpX_ldC rfl rfl rfl (by first|exact Z1.out|exact Z2.out) (by assumption) (fun _ _=>?_)|refine wpX_ef' rfl rfl rfl (fun _ _=>?_));go_wp2_with fail)
   go_wp2_with fail;refine(cfail_any 1 p wP).mono ?_;rintro _ w9 ⟨hc,b9,rfl,hl9,hb9⟩;have HC9:=zh (HCW.out.then hc);have HB9:=zh hb9;have HL9:=zh hl9;have hsz:=HCW.out.size;clear hc hb9 hl9;go_wp2_with fail;rw [HTG.out];exact⟨rfl,HC9.out,b9,rfl,by have:=HL9.out;omega,HB9.out⟩
  | false=>
   have han : ¬ 0≤s.args:=by simpa using ha
   cases hb : decide (0 < s.len) with
   | true=>
    have hbn : 0 < s.len:=by simpa using hb
    have HTG:=zh (show tgt=orL rs by rw [HT0.out,nameL,hf];simp [han,hbn]);clear hf han hbn;have x0 : w.cell? ⟨be,0,none⟩=_:=HX.out.cell 0 _ rfl
    go_enter Tryz.func138,Tryz.ntmps138
    go_wp2_with fail;refine HFD.out.mono ?_;rintro _ w2 ⟨hc2,rfl⟩;have hWD:Chg [] w w2:=hc2;have HX:=zh (HX.out.kept hWD (by simp));have HCW:=zh (HCW.out.then hWD);clear hWD;clear hc2 x0;have hz:=Blk.new w2 #[str [],.int .i64 0,.int .i64 0] 185;obtain⟨wA,hwA⟩ : ∃ w',w2.alloc (.cells #[str [],.int .i64 0,.int .i64 0] 185)=w':=⟨_,rfl⟩
    rw [hwA] at hz;have hcA:Chg [] w2 wA:=by rw [← hwA];exact(Chg.refl _ _).alloc _
    obtain⟨wF,hwF,hcF,hbF⟩:=set3 (str s.name) (.int .i64 s.len) (.int .i64 s.args) hz;have hcF':Chg [] w2 wF:=hcA.trans hcF (fun x hx=>.inr (by simp at hx;omega));have z0:=hz.cell 0 _ rfl;have z1:=hz.cell 1 _ rfl;have z2:=hz.cell 2 _ rfl;have y0:=hz.frozen 0;have y1:=hz.frozen 1;have y2:=hz.frozen 2;have HSB:=zh hbF;have hWD:Chg [] w2 wF:=hcF';have HX:=zh (HX.out.kept hWD (by simp));have HCW:=zh (HCW.out.then hWD);clear hWD;clear hcA hcF hbF hz hcF';go_wp2_with fail;clear z0 z1 z2 y0 y1 y2 hwA hwF;obtain⟨wP,hwD⟩ : ∃ x,x=wF.drew:=⟨_,rfl⟩
    have HSB:=zh (show Blk wP w2.heap.size #[str s.name,.int .i64 s.len,.int .i64 s.args] 185 by rw [hwD];exact HSB.out);have hWD:Chg [] wF wP:=by rw [hwD];exact(Chg.refl [] wF).drew
    have HX:=zh (HX.out.kept hWD (by simp));have HCW:=zh (HCW.out.then hWD);clear hWD;have x0 : wP.cell? ⟨be,0,none⟩=_:=HX.out.cell 0 _ rfl;have s1 : wP.cell? ⟨w2.heap.size,1,none⟩=_:=HSB.out.cell 1 _ rfl;have s2 : wP.cell? ⟨w2.heap.size,2,none⟩=_:=HSB.out.cell 2 _ rfl;have Z1:=zh (Zone.of (X:=[]) (w0:=wP) s1 (by simp));have Z2:=zh (Zone.of (X:=[]) (w0:=wP) x0 (by simp));refine wp_region_C [] rfl (by kernel_rfl) ?_;rw [← hwD];clear hwD;have hS:Chg [] wP wP:=Chg.refl _ _
    repeat ((with_reducible show wpX _ _ _ _ _ _ _ _);(first|refine wpX_nil ?_|refine wpX_skip rfl ?_|refine wpX_mv rfl rfl (by kernel_rfl) (fun _ _=>?_)|refine wpX_ldC rfl rfl rfl (by first|exact Z1.out|exact Z2.out) (by assumption) (fun _ _=>?_)|refine wpX_ef' rfl rfl rfl (fun _ _=>?_));go_wp2_with fail)
    go_wp2_with fail;clear s1 s2 Z1 Z2 hS x0;obtain⟨wQ,hwD⟩ : ∃ x,x=wP.drew:=⟨_,rfl⟩
    have HSB:=zh (show Blk wQ w2.heap.size #[str s.name,.int .i64 s.len,.int .i64 s.args] 185 by rw [hwD];exact HSB.out);have hWD:Chg [] wP wQ:=by rw [hwD];exact(Chg.refl [] wP).drew
    have HX:=zh (HX.out.kept hWD (by simp));have HCW:=zh (HCW.out.then hWD);clear hWD;have x0 : wQ.cell? ⟨be,0,none⟩=_:=HX.out.cell 0 _ rfl;have x1 : wQ.cell? ⟨be,1,none⟩=_:=HX.out.cell 1 _ rfl;have s1 : wQ.cell? ⟨w2.heap.size,1,none⟩=_:=HSB.out.cell 1 _ rfl;have s2 : wQ.cell? ⟨w2.heap.size,2,none⟩=_:=HSB.out.cell 2 _ rfl;have Z1:=zh (Zone.of (X:=[]) (w0:=wQ) s1 (by simp));have Z2:=zh (Zone.of (X:=[]) (w0:=wQ) x0 (by simp));refine wp_region_C [] rfl (by kernel_rfl) ?_;rw [← hwD];clear hwD;have hS:Chg [] wQ wQ:=Chg.refl _ _
    repeat ((with_reducible show wpX _ _ _ _ _ _ _ _);(first|refine wpX_nil ?_|refine wpX_skip rfl ?_|refine wpX_mv rfl rfl (by kernel_rfl) (fun _ _=>?_)|refine wpX_ldC rfl rfl rfl (by first|exact Z1.out|exact Z2.out) (by assumption) (fun _ _=>?_)|refine wpX_ef' rfl rfl rfl (fun _ _=>?_));go_wp2_with fail)
    go_wp2_with fail;clear s1 s2 Z1 Z2 hS x0 x1;obtain⟨wR,hwD⟩ : ∃ x,x=wQ.drew:=⟨_,rfl⟩
    have HSB:=zh (show Blk wR w2.heap.size #[str s.name,.int .i64 s.len,.int .i64 s.args] 185 by rw [hwD];exact HSB.out);have hWD:Chg [] wQ wR:=by rw [hwD];exact(Chg.refl [] wQ).drew
    have HX:=zh (HX.out.kept hWD (by simp));have HCW:=zh (HCW.out.then hWD);clear hWD;have x0 : wR.cell? ⟨be,0,none⟩=_:=HX.out.cell 0 _ rfl;have s1 : wR.cell? ⟨w2.heap.size,1,none⟩=_:=HSB.out.cell 1 _ rfl;have s2 : wR.cell? ⟨w2.heap.size,2,none⟩=_:=HSB.out.cell 2 _ rfl;have Z1:=zh (Zone.of (X:=[]) (w0:=wR) s1 (by simp));have Z2:=zh (Zone.of (X:=[]) (w0:=wR) x0 (by simp));refine wp_region_C [] rfl (by kernel_rfl) ?_;rw [← hwD];clear hwD;have hS:Chg [] wR wR:=Chg.refl _ _
    repeat ((with_reducible show wpX _ _ _ _ _ _ _ _);(first|refine wpX_nil ?_|refine wpX_skip rfl ?_|refine wpX_mv rfl rfl (by kernel_rfl) (fun _ _=>?_)|refine wpX_ldC rfl rfl rfl (by first|exact Z1.out|exact Z2.out) (by assumption) (fun _ _=>?_)|refine wpX_ef' rfl rfl rfl (fun _ _=>?_));go_wp2_with fail)
    go_wp2_with fail;clear s1 s2 Z1 Z2 hS x0;obtain⟨wD,hwD⟩ : ∃ x,x=wR.drew:=⟨_,rfl⟩
    have hWD:Chg [] wR wD:=by rw [hwD];exact(Chg.refl [] wR).drew
    have HX:=zh (HX.out.kept hWD (by simp));have HCW:=zh (HCW.out.then hWD);clear hWD;have x6 : wD.cell? ⟨be,6,none⟩=_:=HX.out.cell 6 _ rfl;have x7 : wD.cell? ⟨be,7,none⟩=_:=HX.out.cell 7 _ rfl;have x8 : wD.cell? ⟨be,8,none⟩=_:=HX.out.cell 8 _ rfl;have Z2:=zh (Zone.of (X:=[]) (w0:=wD) x6 (by simp));have hown : (wD.alloc (.cells #[.pointer ou,.pointer ov] 166)).ownsRow 0 166 1 (.slice (some ⟨wD.heap.size,0,none⟩) 2 2) 2 [.pointer ou,.pointer ov]:=⟨rfl,.inr ⟨wD.heap.size,2,#[.pointer ou,.pointer ov],rfl,Nat.zero_le _,heap_alloc_new wD _,Nat.le_refl _,by unfold maxLen;omega,rfl,rfl⟩⟩;have HOWN:=zh hown;have hca:Chg [] wD (wD.alloc (.cells #[.pointer ou,.pointer ov] 166)):=(Chg.refl _ _).alloc _;have HATD:=zh (show At (wD.alloc (.cells #[.pointer ou,.pointer ov] 166)) a vs from HAT.out.kept (HCW.out.then hca) (fun p hp hm=>by simp at hm));have HONE:=zh (show ∀ x∈vs,x.oneCell'=true from fun x hx=>HKS.out.one x (by simp [hx]));obtain⟨US,hUS⟩ : ∃ U,U=[.pointer ou,.pointer ov] ++ vs:=⟨_,rfl⟩
    have hUL:US.length=2 + vs.length:=by rw [hUS];simp;omega
    have HKS:=zh (show Kids bc w US rs by rw [hUS];exact HKS.out);have HUS:=zh hUS;have hbe : be≠wD.heap.size:=by have:=HX.out.lt;omega
    have x8a:=hca.cellSome x8 (by simp);clear hown hca hUS;refine wp_region_C [] rfl (by kernel_rfl) ?_;rw [← hwD];clear hwD;have hS:Chg [] wD wD:=Chg.refl _ _
    repeat ((with_reducible show wpX _ _ _ _ _ _ _ _);(first|refine wpX_nil ?_|refine wpX_skip rfl ?_|refine wpX_mv rfl rfl (by kernel_rfl) (fun _ _=>?_)|refine wpX_ldC rfl rfl rfl (by exact Z2.out) (by assumption) (fun _ _=>?_)|refine wpX_ef' rfl rfl rfl (fun _ _=>?_));go_wp2_with fail)
    refine And.intro (hS.alloc _) ?_;have hS1:Chg [] wD (wD.alloc (.cells #[.pointer ou,.pointer ov] 166)):=hS.alloc _
    repeat ((with_reducible show wpX _ _ _ _ _ _ _ _);(first|refine wpX_nil ?_|refine wpX_skip rfl ?_|refine wpX_mv rfl rfl (by kernel_rfl) (fun _ _=>?_)|refine wpX_ldC rfl rfl rfl (by exact Z2.out) (by assumption) (fun _ _=>?_)|refine wpX_ef' rfl rfl rfl (fun _ _=>?_));go_wp2_with fail)
    refine wpX_append_any _ _ 190 rfl rfl rfl 166 (.pointer none) 1 8 infoPtr Tryz.underlying190 rfl (by decide) (.slice (some ⟨wD.heap.size,0,none⟩) 2 2) 2 [.pointer ou,.pointer ov] rfl HOWN.out a vs.length kk vs rfl (by simp) HATD.out HONE.out (by omega) (by unfold maxLen;omega) ?_;intro v2 w2 ho2 hc2 _;have hS:Chg [] wD w2:=((Chg.refl [] wD).alloc _).trans hc2 (fun x hx=>.inr (by simp [blk] at hx;omega));rw [← HUS.out] at ho2;obtain⟨ra,rc,rfl,hrc,hrow⟩:=Row.of_owns ho2 (F:=fun _=>True) (fun _ _=>trivial);have HROW:=zh hrow;have HCW:=zh (HCW.out.then hS);clear ho2 hc2 hrow x6 x7 x8 x8a hbe;refine And.intro hS ?_;clear hS1
    repeat ((with_reducible show wpX _ _ _ _ _ _ _ _);(first|refine wpX_nil ?_|refine wpX_skip rfl ?_|refine wpX_mv rfl rfl (by kernel_rfl) (fun _ _=>?_)|refine wpX_ldC rfl rfl rfl (by exact Z2.out) (by assumption) (fun _ _=>?_)|refine wpX_ef' rfl rfl rfl (fun _ _=>?_));go_wp2_with fail)
    clear hS Z2
    go_loopw [6,85] (fun _ i wr=>∃ (k:Nat) (us2:List Value) (rs2:List Look),i = .int .i64 k∧US.drop k=us2∧k≤US.length∧Kids bc w us2 rs2∧orL rs2=orL rs∧Chg [] w2 wr) (fun _ i _=>US.length - (intOf i).toNat)
    case atStart=>exact⟨0,US,rs,rfl,rfl,Nat.zero_le _,HKS.out,rfl,Chg.refl _ _⟩
    case round=>
     obtain⟨k,us2,rs2,rfl,hdr,hkl,hks,htot,hcr⟩:=hrel;have HCR:=zh hcr;by_cases hlt : k < 2 + vs.length
     ·obtain⟨x,hx⟩ : ∃ x,US[k]?=some x:=⟨US[k]'(by omega),List.getElem?_eq_getElem (by omega)⟩
      have hd2 : us2=x :: US.drop (k + 1):=by
       rw [← hdr,List.drop_eq_getElem_cons (by omega)]
       congr 1
       rw [List.getElem?_eq_getElem (by omega)] at hx;exact Option.some.inj hx
      rw [hd2] at hks;obtain⟨r,rs3,rfl,hkid,hks⟩:=hks;obtain⟨rb,ro,rfl,hcell⟩:=HROW.out.at_ (by omega);have d0:=hcr.cellSome (hcell k x hx) (by simp);have HKS:=zh hks;have HTOT:=zh htot;clear hdr hd2 hks hcell hx htot hcr;rcases hkid with⟨rfl,rfl⟩|⟨b,rfl,hcall⟩
      ·go_wp2_with fail
       exact⟨⟨k + 1,_,rs3,by go_num,rfl,by omega,HKS.out,HTOT.out,HCR.out⟩,by simp [intOf];omega⟩
      ·have HCALL:=zh (hcall wr (HCW.out.then HCR.out))
       clear hcall;cases r with
       | none=>
        go_wp2_with fail;refine HCALL.out.mono ?_;rintro _ w4 ⟨hc4,rfl⟩;have HC4:=zh (HCR.out.then hc4);clear hc4;go_wp2_with fail;exact⟨⟨k + 1,_,rs3,by go_num,rfl,by omega,HKS.out,HTOT.out,HC4.out⟩,by simp [intOf];omega⟩
       | some y=>
        obtain⟨en,q⟩:=y;go_wp2_with fail;refine HCALL.out.mono ?_;rintro _ w4 ⟨hc4,b9,rfl,hl9,hb9⟩;have HC4:=zh ((HCW.out.then HCR.out).then hc4);have HB9:=zh hb9;have HL9:=zh hl9;have hsz:=(HCW.out.then HCR.out).size;clear hc4 hb9 hl9;go_wp2_with fail;rw [HTG.out,← HTOT.out,orL_cons];exact⟨rfl,HC4.out,b9,rfl,by have:=HL9.out;omega,HB9.out⟩
     ·have hde : us2=[]:=by rw [← hdr];exact List.drop_eq_nil_of_le (by omega)
      rw [hde] at hks;have hrs : rs2=[]:=hks;have HTOT:=zh (show orL rs=none by rw [← htot,hrs];rfl);clear hdr hde hks hrs htot hcr;go_wp2_with fail;refine bodyPost_end (results_none rfl _ _ _) rfl ?_;rw [HTG.out,HTOT.out];exact⟨HCW.out.then HCR.out,rfl⟩
   | false=>
    have hbn : ¬ 0 < s.len:=by simpa using hb
    have HTG:=zh (show tgt=some (1,p) by rw [HT0.out,nameL,hf];simp [han,hbn]);clear hf han hbn;have x0 : w.cell? ⟨be,0,none⟩=_:=HX.out.cell 0 _ rfl
    go_enter Tryz.func138,Tryz.ntmps138
    go_wp2_with fail;refine HFD.out.mono ?_;rintro _ w2 ⟨hc2,rfl⟩;have hWD:Chg [] w w2:=hc2;have HX:=zh (HX.out.kept hWD (by simp));have HCW:=zh (HCW.out.then hWD);clear hWD;clear hc2 x0;have hz:=Blk.new w2 #[str [],.int .i64 0,.int .i64 0] 185;obtain⟨wA,hwA⟩ : ∃ w',w2.alloc (.cells #[str [],.int .i64 0,.int .i64 0] 185)=w':=⟨_,rfl⟩
    rw [hwA] at hz;have hcA:Chg [] w2 wA:=by rw [← hwA];exact(Chg.refl _ _).alloc _
    obtain⟨wF,hwF,hcF,hbF⟩:=set3 (str s.name) (.int .i64 s.len) (.int .i64 s.args) hz;have hcF':Chg [] w2 wF:=hcA.trans hcF (fun x hx=>.inr (by simp at hx;omega));have z0:=hz.cell 0 _ rfl;have z1:=hz.cell 1 _ rfl;have z2:=hz.cell 2 _ rfl;have y0:=hz.frozen 0;have y1:=hz.frozen 1;have y2:=hz.frozen 2;have HSB:=zh hbF;have hWD:Chg [] w2 wF:=hcF';have HX:=zh (HX.out.kept hWD (by simp));have HCW:=zh (HCW.out.then hWD);clear hWD;clear hcA hcF hbF hz hcF';go_wp2_with fail;clear z0 z1 z2 y0 y1 y2 hwA hwF;obtain⟨wP,hwD⟩ : ∃ x,x=wF.drew:=⟨_,rfl⟩
    have HSB:=zh (show Blk wP w2.heap.size #[str s.name,.int .i64 s.len,.int .i64 s.args] 185 by rw [hwD];exact HSB.out);have hWD:Chg [] wF wP:=by rw [hwD];exact(Chg.refl [] wF).drew
    have HX:=zh (HX.out.kept hWD (by simp));have HCW:=zh (HCW.out.then hWD);clear hWD;have x0 : wP.cell? ⟨be,0,none⟩=_:=HX.out.cell 0 _ rfl;have s1 : wP.cell? ⟨w2.heap.size,1,none⟩=_:=HSB.out.cell 1 _ rfl;have s2 : wP.cell? ⟨w2.heap.size,2,none⟩=_:=HSB.out.cell 2 _ rfl;have Z1:=zh (Zone.of (X:=[]) (w0:=wP) s1 (by simp));have Z2:=zh (Zone.of (X:=[]) (w0:=wP) x0 (by simp));refine wp_region_C [] rfl (by kernel_rfl) ?_;rw [← hwD];clear hwD;have hS:Chg [] wP wP:=Chg.refl _ _
    repeat ((with_reducible show wpX _ _ _ _ _ _ _ _);(first|refine wpX_nil ?_|refine wpX_skip rfl ?_|refine wpX_mv rfl rfl (by kernel_rfl) (fun _ _=>?_)|refine wpX_ldC rfl rfl rfl (by first|exact Z1.out|exact Z2.out) (by assumption) (fun _ _=>?_)|refine wpX_ef' rfl rfl rfl (fun _ _=>?_));go_wp2_with fail)
    go_wp2_with fail;clear s1 s2 Z1 Z2 hS x0;obtain⟨wQ,hwD⟩ : ∃ x,x=wP.drew:=⟨_,rfl⟩
    have HSB:=zh (show Blk wQ w2.heap.size #[str s.name,.int .i64 s.len,.int .i64 s.args] 185 by rw [hwD];exact HSB.out);have hWD:Chg [] wP wQ:=by rw [hwD];exact(Chg.refl [] wP).drew
    have HX:=zh (HX.out.kept hWD (by simp));have HCW:=zh (HCW.out.then hWD);clear hWD;have x0 : wQ.cell? ⟨be,0,none⟩=_:=HX.out.cell 0 _ rfl;have x1 : wQ.cell? ⟨be,1,none⟩=_:=HX.out.cell 1 _ rfl;have s1 : wQ.cell? ⟨w2.heap.size,1,none⟩=_:=HSB.out.cell 1 _ rfl;have s2 : wQ.cell? ⟨w2.heap.size,2,none⟩=_:=HSB.out.cell 2 _ rfl;have Z1:=zh (Zone.of (X:=[]) (w0:=wQ) s1 (by simp));have Z2:=zh (Zone.of (X:=[]) (w0:=wQ) x0 (by simp));refine wp_region_C [] rfl (by kernel_rfl) ?_;rw [← hwD];clear hwD;have hS:Chg [] wQ wQ:=Chg.refl _ _
    repeat ((with_reducible show wpX _ _ _ _ _ _ _ _);(first|refine wpX_nil ?_|refine wpX_skip rfl ?_|refine wpX_mv rfl rfl (by kernel_rfl) (fun _ _=>?_)|refine wpX_ldC rfl rfl rfl (by first|exact Z1.out|exact Z2.out) (by assumption) (fun _ _=>?_)|refine wpX_ef' rfl rfl rfl (fun _ _=>?_));go_wp2_with fail)
    go_wp2_with fail;refine(cfail_any 1 p wQ).mono ?_;rintro _ w9 ⟨hc,b9,rfl,hl9,hb9⟩;have HC9:=zh (HCW.out.then hc);have HB9:=zh hb9;have HL9:=zh hl9;have hsz:=HCW.out.size;clear hc hb9 hl9;go_wp2_with fail;rw [HTG.out];exact⟨rfl,HC9.out,b9,rfl,by have:=HL9.out;omega,HB9.out⟩
theorem expr_n6 (c:Env) (F:Nat→Prop) (bc be p:Nat) (c2 c5:Value) (ou ov:Option Addr) (m n:List UInt8) (a:Option Addr) (kk:Nat) (vs:List Value) (rs:List Look) (w:World) (hx:Blk w be #[.int .i64 6,.int .i64 p,c2,str m,str n,c5,.pointer ou,.pointer ov,.slice a vs.length kk] 192) (hat:At w a vs) (hfew : vs.length≤1000) (hks:Kids bc w (.pointer ou :: .pointer ov :: vs) rs) (hE:EnvAt w F c bc) :
  Calls Tryz.prog 138 #[ptr bc,ptr be] w (Looked [] w ((nameL c p m n fun s=>if ¬ 0≤s.args then some (1,p) else if (vs.length:Int)≠s.args then some (2,p) else none).or (orL rs))):=by
 have HFD:=zh (cfind_any c bc be p m n (.int .i64 6) c2 c5 (.pointer ou) (.pointer ov) (.slice a vs.length kk) F w hE hx);clear hE;have HX:=zh hx;have HAT:=zh hat;have HKS:=zh hks;have HCW:=zh (Chg.refl [] w);clear hx hat hks;obtain⟨tgt,htgt⟩ : ∃ t,t=(nameL c p m n fun s=>if ¬ 0≤s.args then some (1,p) else if (vs.length:Int)≠s.args then some (2,p) else none).or (orL rs):=⟨_,rfl⟩
 rw [← htgt];have HT0:=zh htgt;clear htgt;cases hf : c.find p m n with
 | bad en q=>
  rw [hf] at HFD;have HTG:=zh (show tgt=some (en,q) by rw [HT0.out,nameL,hf] <;> rfl);clear hf;have x0 : w.cell? ⟨be,0,none⟩=_:=HX.out.cell 0 _ rfl
  go_enter Tryz.func138,Tryz.ntmps138
  go_wp2_with fail;refine HFD.out.mono ?_;rintro _ w9 ⟨hc,b9,rfl,hl9,hb9⟩;have HC9:=zh hc;have HB9:=zh hb9;have HL9:=zh hl9;clear hc hb9 hl9;go_wp2_with fail;rw [HTG.out];exact⟨rfl,HC9.out,b9,rfl,HL9.out,HB9.out⟩
 | is s=>
  rw [hf] at HFD;cases ha : decide (0≤s.args) with
  | true=>
   have han : 0≤s.args:=by simpa using ha
   cases hb : decide ((vs.length:Int)=s.args) with
   | true=>
    have hbn : (vs.length:Int)=s.args:=by simpa using hb
    have hb2 : ((vs.length:Int) == s.args)=true:=by simpa using hbn
    have HTG:=zh (show tgt=orL rs by rw [HT0.out,nameL,hf];simp [han,hbn]);clear hf han hbn;have x0 : w.cell? ⟨be,0,none⟩=_:=HX.out.cell 0 _ rfl
    go_enter Tryz.func138,Tryz.ntmps138
    go_wp2_with fail;refine HFD.out.mono ?_;rintro _ w2 ⟨hc2,rfl⟩;have hWD:Chg [] w w2:=hc2;have HX:=zh (HX.out.kept hWD (by simp));have HCW:=zh (HCW.out.then hWD);clear hWD;clear hc2 x0;have hz:=Blk.new w2 #[str [],.int .i64 0,.int .i64 0] 185;obtain⟨wA,hwA⟩ : ∃ w',w2.alloc (.cells #[str [],.int .i64 0,.int .i64 0] 185)=w':=⟨_,rfl⟩
    rw [hwA] at hz;have hcA:Chg [] w2 wA:=by rw [← hwA];exact(Chg.refl _ _).alloc _
    obtain⟨wF,hwF,hcF,hbF⟩:=set3 (str s.name) (.int .i64 s.len) (.int .i64 s.args) hz;have hcF':Chg [] w2 wF:=hcA.trans hcF (fun x hx=>.inr (by simp at hx;omega));have z0:=hz.cell 0 _ rfl;have z1:=hz.cell 1 _ rfl;have z2:=hz.cell 2 _ rfl;have y0:=hz.frozen 0;have y1:=hz.frozen 1;have y2:=hz.frozen 2;have HSB:=zh hbF;have hWD:Chg [] w2 wF:=hcF';have HX:=zh (HX.out.kept hWD (by simp));have HCW:=zh (HCW.out.then hWD);clear hWD;clear hcA hcF hbF hz hcF';go_wp2_with fail;clear z0 z1 z2 y0 y1 y2 hwA hwF;obtain⟨wP,hwD⟩ : ∃ x,x=wF.drew:=⟨_,rfl⟩
    have HSB:=zh (show Blk wP w2.heap.size #[str s.name,.int .i64 s.len,.int .i64 s.args] 185 by rw [hwD];exact HSB.out);have hWD:Chg [] wF wP:=by rw [hwD];exact(Chg.refl [] wF).drew
    have HX:=zh (HX.out.kept hWD (by simp));have HCW:=zh (HCW.out.then hWD);clear hWD;have x0 : wP.cell? ⟨be,0,none⟩=_:=HX.out.cell 0 _ rfl;have s1 : wP.cell? ⟨w2.heap.size,1,none⟩=_:=HSB.out.cell 1 _ rfl;have s2 : wP.cell? ⟨w2.heap.size,2,none⟩=_:=HSB.out.cell 2 _ rfl;have Z1:=zh (Zone.of (X:=[]) (w0:=wP) s1 (by simp));have Z2:=zh (Zone.of (X:=[]) (w0:=wP) x0 (by simp));refine wp_region_C [] rfl (by kernel_rfl) ?_;rw [← hwD];clear hwD;have hS:Chg [] wP wP:=Chg.refl _ _
    repeat ((with_reducible show wpX _ _ _ _ _ _ _ _);(first|refine wpX_nil ?_|refine wpX_skip rfl ?_|refine wpX_mv rfl rfl (by kernel_rfl) (fun _ _=>?_)|refine wpX_ldC rfl rfl rfl (by first|exact Z1.out|exact Z2.out) (by assumption) (fun _ _=>?_)|refine wpX_ef' rfl rfl rfl (fun _ _=>?_));go_wp2_with fail)
    go_wp2_with fail;clear s1 s2 Z1 Z2 hS x0;obtain⟨wQ,hwD⟩ : ∃ x,x=wP.drew:=⟨_,rfl⟩
    have HSB:=zh (show Blk wQ w2.heap.size #[str s.name,.int .i64 s.len,.int .i64 s.args] 185 by rw [hwD];exact HSB.out);have hWD:Chg [] wP wQ:=by rw [hwD];exact(Chg.refl [] wP).drew
    have HX:=zh (HX.out.kept hWD (by simp));have HCW:=zh (HCW.out.then hWD);clear hWD;have x0 : wQ.cell? ⟨be,0,none⟩=_:=HX.out.cell 0 _ rfl;have s1 : wQ.cell? ⟨w2.heap.size,1,none⟩=_:=HSB.out.cell 1 _ rfl;have s2 : wQ.cell? ⟨w2.heap.size,2,none⟩=_:=HSB.out.cell 2 _ rfl;have Z1:=zh (Zone.of (X:=[]) (w0:=wQ) s1 (by simp));have Z2:=zh (Zone.of (X:=[]) (w0:=wQ) x0 (by simp));refine wp_region_C [] rfl (by kernel_rfl) ?_;rw [← hwD];clear hwD;have hS:Chg [] wQ wQ:=Chg.refl _ _
    repeat ((with_reducible show wpX _ _ _ _ _ _ _ _);(first|refine wpX_nil ?_|refine wpX_skip rfl ?_|refine wpX_mv rfl rfl (by kernel_rfl) (fun _ _=>?_)|refine wpX_ldC rfl rfl rfl (by first|exact Z1.out|exact Z2.out) (by assumption) (fun _ _=>?_)|refine wpX_ef' rfl rfl rfl (fun _ _=>?_));go_wp2_with fail)
    go_wp2_with fail;clear s1 s2 Z1 Z2 hS x0;obtain⟨wR,hwD⟩ : ∃ x,x=wQ.drew:=⟨_,rfl⟩
    have HSB:=zh (show Blk wR w2.heap.size #[str s.name,.int .i64 s.len,.int .i64 s.args] 185 by rw [hwD];exact HSB.out);have hWD:Chg [] wQ wR:=by rw [hwD];exact(Chg.refl [] wQ).drew
    have HX:=zh (HX.out.kept hWD (by simp));have HCW:=zh (HCW.out.then hWD);clear hWD;have x0 : wR.cell? ⟨be,0,none⟩=_:=HX.out.cell 0 _ rfl;have x1 : wR.cell? ⟨be,1,none⟩=_:=HX.out.cell 1 _ rfl;have x8 : wR.cell? ⟨be,8,none⟩=_:=HX.out.cell 8 _ rfl;have s1 : wR.cell? ⟨w2.heap.size,1,none⟩=_:=HSB.out.cell 1 _ rfl;have s2 : wR.cell? ⟨w2.heap.size,2,none⟩=_:=HSB.out.cell 2 _ rfl;have Z1:=zh (Zone.of (X:=[]) (w0:=wR) s1 (by simp));have Z2:=zh (Zone.of (X:=[]) (w0:=wR) x0 (by simp));refine wp_region_C [] rfl (by kernel_rfl) ?_;rw [← hwD];clear hwD;have hS:Chg [] wR wR:=Chg.refl _ _
    repeat ((with_reducible show wpX _ _ _ _ _ _ _ _);(first|refine wpX_nil ?_|refine wpX_skip rfl ?_|refine wpX_mv rfl rfl (by kernel_rfl) (fun _ _=>?_)|refine wpX_ldC rfl rfl rfl (by first|exact Z1.out|exact Z2.out) (by assumption) (fun _ _=>?_)|refine wpX_ef' rfl rfl rfl (fun _ _=>?_));go_wp2_with fail)
    go_wp2_with fail;clear s1 s2 Z1 Z2 hS x0 x1 x8;obtain⟨wD,hwD⟩ : ∃ x,x=wR.drew:=⟨_,rfl⟩
    have hWD:Chg [] wR wD:=by rw [hwD];exact(Chg.refl [] wR).drew
    have HX:=zh (HX.out.kept hWD (by simp));have HCW:=zh (HCW.out.then hWD);clear hWD;have x6 : wD.cell? ⟨be,6,none⟩=_:=HX.out.cell 6 _ rfl;have x7 : wD.cell? ⟨be,7,none⟩=_:=HX.out.cell 7 _ rfl;have x8 : wD.cell? ⟨be,8,none⟩=_:=HX.out.cell 8 _ rfl;have Z2:=zh (Zone.of (X:=[]) (w0:=wD) x6 (by simp));have hown : (wD.alloc (.cells #[.pointer ou,.pointer ov] 166)).ownsRow 0 166 1 (.slice (some ⟨wD.heap.size,0,none⟩) 2 2) 2 [.pointer ou,.pointer ov]:=⟨rfl,.inr ⟨wD.heap.size,2,#[.pointer ou,.pointer ov],rfl,Nat.zero_le _,heap_alloc_new wD _,Nat.le_refl _,by unfold maxLen;omega,rfl,rfl⟩⟩;have HOWN:=zh hown;have hca:Chg [] wD (wD.alloc (.cells #[.pointer ou,.pointer ov] 166)):=(Chg.refl _ _).alloc _;have HATD:=zh (show At (wD.alloc (.cells #[.pointer ou,.pointer ov] 166)) a vs from HAT.out.kept (HCW.out.then hca) (fun p hp hm=>by simp at hm));have HONE:=zh (show ∀ x∈vs,x.oneCell'=true from fun x hx=>HKS.out.one x (by simp [hx]));obtain⟨US,hUS⟩ : ∃ U,U=[.pointer ou,.pointer ov] ++ vs:=⟨_,rfl⟩
    have hUL:US.length=2 + vs.length:=by rw [hUS];simp;omega
    have HKS:=zh (show Kids bc w US rs by rw [hUS];exact HKS.out);have HUS:=zh hUS;have hbe : be≠wD.heap.size:=by have:=HX.out.lt;omega
    have x8a:=hca.cellSome x8 (by simp);clear hown hca hUS;refine wp_region_C [] rfl (by kernel_rfl) ?_;rw [← hwD];clear hwD;have hS:Chg [] wD wD:=Chg.refl _ _
    repeat ((with_reducible show wpX _ _ _ _ _ _ _ _);(first|refine wpX_nil ?_|refine wpX_skip rfl ?_|refine wpX_mv rfl rfl (by kernel_rfl) (fun _ _=>?_)|refine wpX_ldC rfl rfl rfl (by exact Z2.out) (by assumption) (fun _ _=>?_)|refine wpX_ef' rfl rfl rfl (fun _ _=>?_));go_wp2_with fail)
    refine And.intro (hS.alloc _) ?_;have hS1:Chg [] wD (wD.alloc (.cells #[.pointer ou,.pointer ov] 166)):=hS.alloc _
    repeat ((with_reducible show wpX _ _ _ _ _ _ _ _);(first|refine wpX_nil ?_|refine wpX_skip rfl ?_|refine wpX_mv rfl rfl (by kernel_rfl) (fun _ _=>?_)|refine wpX_ldC rfl rfl rfl (by exact Z2.out) (by assumption) (fun _ _=>?_)|refine wpX_ef' rfl rfl rfl (fun _ _=>?_));go_wp2_with fail)
    refine wpX_append_any _ _ 190 rfl rfl rfl 166 (.pointer none) 1 8 infoPtr Tryz.underlying190 rfl (by decide) (.slice (some ⟨wD.heap.size,0,none⟩) 2 2) 2 [.pointer ou,.pointer ov] rfl HOWN.out a vs.length kk vs rfl (by simp) HATD.out HONE.out (by omega) (by unfold maxLen;omega) ?_;intro v2 w2 ho2 hc2 _;have hS:Chg [] wD w2:=((Chg.refl [] wD).alloc _).trans hc2 (fun x hx=>.inr (by simp [blk] at hx;omega));rw [← HUS.out] at ho2;obtain⟨ra,rc,rfl,hrc,hrow⟩:=Row.of_owns ho2 (F:=fun _=>True) (fun _ _=>trivial);have HROW:=zh hrow;have HCW:=zh (HCW.out.then hS);clear ho2 hc2 hrow x6 x7 x8 x8a hbe;refine And.intro hS ?_;clear hS1
    repeat ((with_reducible show wpX _ _ _ _ _ _ _ _);(first|refine wpX_nil ?_|refine wpX_skip rfl ?_|refine wpX_mv rfl rfl (by kernel_rfl) (fun _ _=>?_)|refine wpX_ldC rfl rfl rfl (by exact Z2.out) (by assumption) (fun _ _=>?_)|refine wpX_ef' rfl rfl rfl (fun _ _=>?_));go_wp2_with fail)
    clear hS Z2
    go_loopw [6,85] (fun _ i wr=>∃ (k:Nat) (us2:List Value) (rs2:List Look),i = .int .i64 k∧US.drop k=us2∧k≤US.length∧Kids bc w us2 rs2∧orL rs2=orL rs∧Chg [] w2 wr) (fun _ i _=>US.length - (intOf i).toNat)
    case atStart=>exact⟨0,US,rs,rfl,rfl,Nat.zero_le _,HKS.out,rfl,Chg.refl _ _⟩
    case round=>
     obtain⟨k,us2,rs2,rfl,hdr,hkl,hks,htot,hcr⟩:=hrel;have HCR:=zh hcr;by_cases hlt : k < 2 + vs.length
     ·obtain⟨x,hx⟩ : ∃ x,US[k]?=some x:=⟨US[k]'(by omega),List.getElem?_eq_getElem (by omega)⟩
      have hd2 : us2=x :: US.drop (k + 1):=by
       rw [← hdr,List.drop_eq_getElem_cons (by omega)]
       congr 1
       rw [List.getElem?_eq_getElem (by omega)] at hx;exact Option.some.inj hx
      rw [hd2] at hks;obtain⟨r,rs3,rfl,hkid,hks⟩:=hks;obtain⟨rb,ro,rfl,hcell⟩:=HROW.out.at_ (by omega);have d0:=hcr.cellSome (hcell k x hx) (by simp);have HKS:=zh hks;have HTOT:=zh htot;clear hdr hd2 hks hcell hx htot hcr;rcases hkid with⟨rfl,rfl⟩|⟨b,rfl,hcall⟩
      ·go_wp2_with fail
       exact⟨⟨k + 1,_,rs3,by go_num,rfl,by omega,HKS.out,HTOT.out,HCR.out⟩,by simp [intOf];omega⟩
      ·have HCALL:=zh (hcall wr (HCW.out.then HCR.out))
       clear hcall;cases r with
       | none=>
        go_wp2_with fail;refine HCALL.out.mono ?_;rintro _ w4 ⟨hc4,rfl⟩;have HC4:=zh (HCR.out.then hc4);clear hc4;go_wp2_with fail;exact⟨⟨k + 1,_,rs3,by go_num,rfl,by omega,HKS.out,HTOT.out,HC4.out⟩,by simp [intOf];omega⟩
       | some y=>
        obtain⟨en,q⟩:=y;go_wp2_with fail;refine HCALL.out.mono ?_;rintro _ w4 ⟨hc4,b9,rfl,hl9,hb9⟩;have HC4:=zh ((HCW.out.then HCR.out).then hc4);have HB9:=zh hb9;have HL9:=zh hl9;have hsz:=(HCW.out.then HCR.out).size;clear hc4 hb9 hl9;go_wp2_with fail;rw [HTG.out,← HTOT.out,orL_cons];exact⟨rfl,HC4.out,b9,rfl,by have:=HL9.out;omega,HB9.out⟩
     ·have hde : us2=[]:=by rw [← hdr];exact List.drop_eq_nil_of_le (by omega)
      rw [hde] at hks;have hrs : rs2=[]:=hks;have HTOT:=zh (show orL rs=none by rw [← htot,hrs];rfl);clear hdr hde hks hrs htot hcr;go_wp2_with fail;refine bodyPost_end (results_none rfl _ _ _) rfl ?_;rw [HTG.out,HTOT.out];exact⟨HCW.out.then HCR.out,rfl⟩
   | false=>
    have hbn : ¬ (vs.length:Int)=s.args:=by simpa using hb
    have hb2 : ((vs.length:Int) == s.args)=false:=by simpa using hbn
    have HTG:=zh (show tgt=some (2,p) by rw [HT0.out,nameL,hf];simp [han,hbn]);clear hf han hbn;have x0 : w.cell? ⟨be,0,none⟩=_:=HX.out.cell 0 _ rfl
    go_enter Tryz.func138,Tryz.ntmps138
    go_wp2_with fail;refine HFD.out.mono ?_;rintro _ w2 ⟨hc2,rfl⟩;have hWD:Chg [] w w2:=hc2;have HX:=zh (HX.out.kept hWD (by simp));have HCW:=zh (HCW.out.then hWD);clear hWD;clear hc2 x0;have hz:=Blk.new w2 #[str [],.int .i64 0,.int .i64 0] 185;obtain⟨wA,hwA⟩ : ∃ w',w2.alloc (.cells #[str [],.int .i64 0,.int .i64 0] 185)=w':=⟨_,rfl⟩
    rw [hwA] at hz;have hcA:Chg [] w2 wA:=by rw [← hwA];exact(Chg.refl _ _).alloc _
    obtain⟨wF,hwF,hcF,hbF⟩:=set3 (str s.name) (.int .i64 s.len) (.int .i64 s.args) hz;have hcF':Chg [] w2 wF:=hcA.trans hcF (fun x hx=>.inr (by simp at hx;omega));have z0:=hz.cell 0 _ rfl;have z1:=hz.cell 1 _ rfl;have z2:=hz.cell 2 _ rfl;have y0:=hz.frozen 0;have y1:=hz.frozen 1;have y2:=hz.frozen 2;have HSB:=zh hbF;have hWD:Chg [] w2 wF:=hcF';have HX:=zh (HX.out.kept hWD (by simp));have HCW:=zh (HCW.out.then hWD);clear hWD;clear hcA hcF hbF hz hcF';go_wp2_with fail;clear z0 z1 z2 y0 y1 y2 hwA hwF;obtain⟨wP,hwD⟩ : ∃ x,x=wF.drew:=⟨_,rfl⟩
    have HSB:=zh (show Blk wP w2.heap.size #[str s.name,.int .i64 s.len,.int .i64 s.args] 185 by rw [hwD];exact HSB.out);have hWD:Chg [] wF wP:=by rw [hwD];exact(Chg.refl [] wF).drew
    have HX:=zh (HX.out.kept hWD (by simp));have HCW:=zh (HCW.out.then hWD);clear hWD;have x0 : wP.cell? ⟨be,0,none⟩=_:=HX.out.cell 0 _ rfl;have s1 : wP.cell? ⟨w2.heap.size,1,none⟩=_:=HSB.out.cell 1 _ rfl;have s2 : wP.cell? ⟨w2.heap.size,2,none⟩=_:=HSB.out.cell 2 _ rfl;have Z1:=zh (Zone.of (X:=[]) (w0:=wP) s1 (by simp));have Z2:=zh (Zone.of (X:=[]) (w0:=wP) x0 (by simp));refine wp_region_C [] rfl (by kernel_rfl) ?_;rw [← hwD];clear hwD;have hS:Chg [] wP wP:=Chg.refl _ _
    repeat ((with_reducible show wpX _ _ _ _ _ _ _ _);(first|refine wpX_nil ?_|refine wpX_skip rfl ?_|refine wpX_mv rfl rfl (by kernel_rfl) (fun _ _=>?_)|refine wpX_ldC rfl rfl rfl (by first|exact Z1.out|exact Z2.out) (by assumption) (fun _ _=>?_)|refine wpX_ef' rfl rfl rfl (fun _ _=>?_));go_wp2_with fail)
    go_wp2_with fail;clear s1 s2 Z1 Z2 hS x0;obtain⟨wQ,hwD⟩ : ∃ x,x=wP.drew:=⟨_,rfl⟩
    have HSB:=zh (show Blk wQ w2.heap.size #[str s.name,.int .i64 s.len,.int .i64 s.args] 185 by rw [hwD];exact HSB.out);have hWD:Chg [] wP wQ:=by rw [hwD];exact(Chg.refl [] wP).drew
    have HX:=zh (HX.out.kept hWD (by simp));have HCW:=zh (HCW.out.then hWD);clear hWD;have x0 : wQ.cell? ⟨be,0,none⟩=_:=HX.out.cell 0 _ rfl;have s1 : wQ.cell? ⟨w2.heap.size,1,none⟩=_:=HSB.out.cell 1 _ rfl;have s2 : wQ.cell? ⟨w2.heap.size,2,none⟩=_:=HSB.out.cell 2 _ rfl;have Z1:=zh (Zone.of (X:=[]) (w0:=wQ) s1 (by simp));have Z2:=zh (Zone.of (X:=[]) (w0:=wQ) x0 (by simp));refine wp_region_C [] rfl (by kernel_rfl) ?_;rw [← hwD];clear hwD;have hS:Chg [] wQ wQ:=Chg.refl _ _
    repeat ((with_reducible show wpX _ _ _ _ _ _ _ _);(first|refine wpX_nil ?_|refine wpX_skip rfl ?_|refine wpX_mv rfl rfl (by kernel_rfl) (fun _ _=>?_)|refine wpX_ldC rfl rfl rfl (by first|exact Z1.out|exact Z2.out) (by assumption) (fun _ _=>?_)|refine wpX_ef' rfl rfl rfl (fun _ _=>?_));go_wp2_with fail)
    go_wp2_with fail;clear s1 s2 Z1 Z2 hS x0;obtain⟨wR,hwD⟩ : ∃ x,x=wQ.drew:=⟨_,rfl⟩
    have HSB:=zh (show Blk wR w2.heap.size #[str s.name,.int .i64 s.len,.int .i64 s.args] 185 by rw [hwD];exact HSB.out);have hWD:Chg [] wQ wR:=by rw [hwD];exact(Chg.refl [] wQ).drew
    have HX:=zh (HX.out.kept hWD (by simp));have HCW:=zh (HCW.out.then hWD);clear hWD;have x0 : wR.cell? ⟨be,0,none⟩=_:=HX.out.cell 0 _ rfl;have x1 : wR.cell? ⟨be,1,none⟩=_:=HX.out.cell 1 _ rfl;have x8 : wR.cell? ⟨be,8,none⟩=_:=HX.out.cell 8 _ rfl;have s1 : wR.cell? ⟨w2.heap.size,1,none⟩=_:=HSB.out.cell 1 _ rfl;have s2 : wR.cell? ⟨w2.heap.size,2,none⟩=_:=HSB.out.cell 2 _ rfl;have Z1:=zh (Zone.of (X:=[]) (w0:=wR) s1 (by simp));have Z2:=zh (Zone.of (X:=[]) (w0:=wR) x0 (by simp));refine wp_region_C [] rfl (by kernel_rfl) ?_;rw [← hwD];clear hwD;have hS:Chg [] wR wR:=Chg.refl _ _
    repeat ((with_reducible show wpX _ _ _ _ _ _ _ _);(first|refine wpX_nil ?_|refine wpX_skip rfl ?_|refine wpX_mv rfl rfl (by kernel_rfl) (fun _ _=>?_)|refine wpX_ldC rfl rfl rfl (by first|exact Z1.out|exact Z2.out) (by assumption) (fun _ _=>?_)|refine wpX_ef' rfl rfl rfl (fun _ _=>?_));go_wp2_with fail)
    go_wp2_with fail;refine(cfail_any 2 p wR).mono ?_;rintro _ w9 ⟨hc,b9,rfl,hl9,hb9⟩;have HC9:=zh (HCW.out.then hc);have HB9:=zh hb9;have HL9:=zh hl9;have hsz:=HCW.out.size;clear hc hb9 hl9;go_wp2_with fail;rw [HTG.out];exact⟨rfl,HC9.out,b9,rfl,by have:=HL9.out;omega,HB9.out⟩
  | false=>
   have han : ¬ 0≤s.args:=by simpa using ha
   have HTG:=zh (show tgt=some (1,p) by rw [HT0.out,nameL,hf];simp [han]);clear hf han;have x0 : w.cell? ⟨be,0,none⟩=_:=HX.out.cell 0 _ rfl
   go_enter Tryz.func138,Tryz.ntmps138
   go_wp2_with fail;refine HFD.out.mono ?_;rintro _ w2 ⟨hc2,rfl⟩;have hWD:Chg [] w w2:=hc2;have HX:=zh (HX.out.kept hWD (by simp));have HCW:=zh (HCW.out.then hWD);clear hWD;clear hc2 x0;have hz:=Blk.new w2 #[str [],.int .i64 0,.int .i64 0] 185;obtain⟨wA,hwA⟩ : ∃ w',w2.alloc (.cells #[str [],.int .i64 0,.int .i64 0] 185)=w':=⟨_,rfl⟩
   rw [hwA] at hz;have hcA:Chg [] w2 wA:=by rw [← hwA];exact(Chg.refl _ _).alloc _
   obtain⟨wF,hwF,hcF,hbF⟩:=set3 (str s.name) (.int .i64 s.len) (.int .i64 s.args) hz;have hcF':Chg [] w2 wF:=hcA.trans hcF (fun x hx=>.inr (by simp at hx;omega));have z0:=hz.cell 0 _ rfl;have z1:=hz.cell 1 _ rfl;have z2:=hz.cell 2 _ rfl;have y0:=hz.frozen 0;have y1:=hz.frozen 1;have y2:=hz.frozen 2;have HSB:=zh hbF;have hWD:Chg [] w2 wF:=hcF';have HX:=zh (HX.out.kept hWD (by simp));have HCW:=zh (HCW.out.then hWD);clear hWD;clear hcA hcF hbF hz hcF';go_wp2_with fail;clear z0 z1 z2 y0 y1 y2 hwA hwF;obtain⟨wP,hwD⟩ : ∃ x,x=wF.drew:=⟨_,rfl⟩
   have HSB:=zh (show Blk wP w2.heap.size #[str s.name,.int .i64 s.len,.int .i64 s.args] 185 by rw [hwD];exact HSB.out);have hWD:Chg [] wF wP:=by rw [hwD];exact(Chg.refl [] wF).drew
   have HX:=zh (HX.out.kept hWD (by simp));have HCW:=zh (HCW.out.then hWD);clear hWD;have x0 : wP.cell? ⟨be,0,none⟩=_:=HX.out.cell 0 _ rfl;have x1 : wP.cell? ⟨be,1,none⟩=_:=HX.out.cell 1 _ rfl;have s1 : wP.cell? ⟨w2.heap.size,1,none⟩=_:=HSB.out.cell 1 _ rfl;have s2 : wP.cell? ⟨w2.heap.size,2,none⟩=_:=HSB.out.cell 2 _ rfl;have Z1:=zh (Zone.of (X:=[]) (w0:=wP) s1 (by simp));have Z2:=zh (Zone.of (X:=[]) (w0:=wP) x0 (by simp));refine wp_region_C [] rfl (by kernel_rfl) ?_;rw [← hwD];clear hwD;have hS:Chg [] wP wP:=Chg.refl _ _
   repeat ((with_reducible show wpX _ _ _ _ _ _ _ _);(first|refine wpX_nil ?_|refine wpX_skip rfl ?_|refine wpX_mv rfl rfl (by kernel_rfl) (fun _ _=>?_)|refine wpX_ldC rfl rfl rfl (by first|exact Z1.out|exact Z2.out) (by assumption) (fun _ _=>?_)|refine wpX_ef' rfl rfl rfl (fun _ _=>?_));go_wp2_with fail)
   go_wp2_with fail;refine(cfail_any 1 p wP).mono ?_;rintro _ w9 ⟨hc,b9,rfl,hl9,hb9⟩;have HC9:=zh (HCW.out.then hc);have HB9:=zh hb9;have HL9:=zh hl9;have hsz:=HCW.out.size;clear hc hb9 hl9;go_wp2_with fail;rw [HTG.out];exact⟨rfl,HC9.out,b9,rfl,by have:=HL9.out;omega,HB9.out⟩
end Go.Proofs.YtechofppmnnomaaGreatDoor
namespace Go.Proofs.YtechofppmnnomaaGreatDoor
open Go Go.RowKit Go.Mq Go.Mq.Tree Go.Mq.Sym Go.Mq.Check
set_option maxRecDepth 100000
set_option maxHeartbeats 1000000
def ExOf (c:Env) (F:Nat→Prop) (bc:Nat) (e:E):Prop:=
 (∀ (u:Value) (w:World),EnvAt w F c bc→EAt w F e [u] → ∃ b,u=ptr b∧Calls Tryz.prog 138 #[ptr bc,ptr b] w (Looked [] w (exprL c e))) ∧
 ∀ (us:List Value) (w:World),EnvAt w F c bc→EAt w F e us → ∃ rs,Kids bc w us rs∧orL rs=exprL c e∧us.length=argsN e
theorem ExOf.kid {c:Env} {F:Nat→Prop} {bc:Nat} {e:E} (h:ExOf c F bc e) {u:Value} {w:World} (hE:EnvAt w F c bc) (he:EAt w F e [u]) : ∃ b,u=ptr b∧Kid bc w (ptr b) (exprL c e):=by
 obtain⟨b,hb,_⟩:=h.1 u w hE he;subst hb;refine⟨b,rfl,.inr ⟨b,rfl,fun w' hc=>?_⟩⟩;obtain⟨b',hb',hcall⟩:=h.1 (ptr b) w' (hE.kept hc (by simp)) (he.kept hc (by simp));cases hb'
 exact hcall
theorem kid_nil (bc:Nat) (w:World):Kid bc w nilp none:=.inl ⟨rfl,rfl⟩
theorem ExOf.one {c:Env} {F:Nat→Prop} {bc:Nat} {e:E} (hx : e.isX) (h : ∀ (u:Value) (w:World),EnvAt w F c bc→EAt w F e [u] → ∃ b,u=ptr b∧Calls Tryz.prog 138 #[ptr bc,ptr b] w (Looked [] w (exprL c e))):ExOf c F bc e:=by
 refine⟨h,fun us w hE he=>?_⟩;have hus : ∃ u,us=[u]:=by
  cases e with
  | num p n=>obtain⟨b,hb,_⟩:=he;exact⟨_,hb⟩
  | var p m n=>obtain⟨b,hb,_⟩:=he;exact⟨_,hb⟩
  | item p m n i=>obtain⟨b,_,hb,_⟩:=he;exact⟨_,hb⟩
  | un p op x=>obtain⟨b,_,hb,_⟩:=he;exact⟨_,hb⟩
  | bin p op x y=>obtain⟨b,_,_,hb,_⟩:=he;exact⟨_,hb⟩
  | app p m n l=>obtain⟨b,_,_,_,hb,_⟩:=he;exact⟨_,hb⟩
  | nil=>exact hx.elim
  | cons _ _=>exact hx.elim
 obtain⟨u,rfl⟩:=hus;refine⟨[exprL c e],⟨_,_,rfl,?_,rfl⟩,by simp [orL],?_⟩
 ·obtain⟨b,hb,_⟩:=h u w hE he
  subst hb;refine .inr ⟨b,rfl,fun w' hc=>?_⟩;obtain⟨b',hb',hcall⟩:=h (ptr b) w' (hE.kept hc (by simp)) (he.kept hc (by simp));cases hb'
  exact hcall
 ·cases e <;> first|rfl|exact hx.elim
theorem expr_all (c:Env) (F:Nat→Prop) (bc:Nat) (e:E):FewE e→ExOf c F bc e:=by
 induction e with
 | num p n=>
  refine fun _=>ExOf.one trivial fun u w hE he=>?_
  obtain⟨b,hb,_,hblk⟩:=he;cases hb
  exact⟨b,rfl,expr_n1 bc b p (.int .i64 n) (str []) none none [] [] none 0 [] [none,none] w hblk (fun h=>by simp at h) (by simp) ⟨_,_,rfl,kid_nil bc w,_,_,rfl,kid_nil bc w,rfl⟩⟩
 | var p m n=>
  refine fun _=>ExOf.one trivial fun u w hE he=>?_
  obtain⟨b,hb,_,hblk⟩:=he;cases hb
  have:=expr_n2 c F bc b p (.int .i64 0) (str []) none none m n none 0 [] [none,none] w hblk (fun h=>by simp at h) (by simp) ⟨_,_,rfl,kid_nil bc w,_,_,rfl,kid_nil bc w,rfl⟩ hE;refine⟨b,rfl,?_⟩
  simpa [orL,exprL] using this
 | item p m n i ih=>
  refine fun hf=>ExOf.one trivial fun u w hE he=>?_
  obtain⟨b,v,hb,_,hblk,hi⟩:=he;cases hb
  obtain⟨bi,rfl,hkid⟩:=(ih hf).kid hE hi;have:=expr_n3 c F bc b p (.int .i64 0) (str []) (some ⟨bi,0,none⟩) none m n none 0 [] [exprL c i,none] w hblk (fun h=>by simp at h) (by simp) ⟨_,_,rfl,hkid,_,_,rfl,kid_nil bc w,rfl⟩ hE;refine⟨b,rfl,?_⟩
  simpa [orL,exprL] using this
 | un p op x ih=>
  refine fun hf=>ExOf.one trivial fun u w hE he=>?_
  obtain⟨b,v,hb,_,hblk,hi⟩:=he;cases hb
  obtain⟨bi,rfl,hkid⟩:=(ih hf).kid hE hi;have:=expr_n4 bc b p (.int .i64 0) (str op) (some ⟨bi,0,none⟩) none [] [] none 0 [] [exprL c x,none] w hblk (fun h=>by simp at h) (by simp) ⟨_,_,rfl,hkid,_,_,rfl,kid_nil bc w,rfl⟩;refine⟨b,rfl,?_⟩
  simpa [orL,exprL] using this
 | bin p op x y ih1 ih2=>
  refine fun hf=>ExOf.one trivial fun u w hE he=>?_
  obtain⟨b,v,v2,hb,_,hblk,hi,hj⟩:=he;cases hb
  obtain⟨bi,rfl,hkid⟩:=(ih1 hf.1).kid hE hi;obtain⟨bj,rfl,hkjd⟩:=(ih2 hf.2).kid hE hj;have:=expr_n5 bc b p (.int .i64 0) (str op) (some ⟨bi,0,none⟩) (some ⟨bj,0,none⟩) [] [] none 0 [] [exprL c x,exprL c y] w hblk (fun h=>by simp at h) (by simp) ⟨_,_,rfl,hkid,_,_,rfl,hkjd,rfl⟩;refine⟨b,rfl,?_⟩
  simpa [orL,exprL] using this
 | app p m n l ih=>
  refine fun hf=>ExOf.one trivial fun u w hE he=>?_
  obtain⟨b,a,k,vs,hb,_,hblk,_,hrow,hl⟩:=he;cases hb
  obtain⟨rs,hks,hor,hlen⟩:=(ih hf.2).2 vs w hE hl;have hfa:=hf.1;have:=expr_n6 c F bc b p (.int .i64 0) (str []) none none m n a k vs (none :: none :: rs) w hblk hrow.at_ (by omega) ⟨_,_,rfl,kid_nil bc w,_,_,rfl,kid_nil bc w,hks⟩ hE;refine⟨b,rfl,?_⟩;rw [orL_cons,orL_cons,Option.none_or,Option.none_or,hor,hlen] at this;exact this
 | nil=>exact fun _=>⟨fun u w _ he=>(by cases (show [u]=[] from he)),fun us w _ he=>⟨[],by rw [show us=[] from he];rfl,rfl,by rw [show us=[] from he];rfl⟩⟩
 | cons x r ih1 ih2=>
  refine fun hf=>⟨fun u w hE he=>?_,fun us w hE he=>?_⟩
  ·obtain⟨v,vs,hv,h1,h2⟩:=he
   simp only [List.cons.injEq] at hv;obtain⟨rfl,rfl⟩:=hv;obtain⟨rs,hks,hor,_⟩:=(ih2 hf.2).2 [] w hE h2;have hrs : rs=[]:=hks;subst hrs;obtain⟨b,hb,hcall⟩:=(ih1 hf.1).1 u w hE h1;refine⟨b,hb,?_⟩;rw [exprL,← hor,show orL []=none from rfl,Option.or_none];exact hcall
  ·obtain⟨v,vs,rfl,h1,h2⟩:=he
   obtain⟨rs,hks,hor,hlen⟩:=(ih2 hf.2).2 vs w hE h2;obtain⟨b,rfl,hkid⟩:=(ih1 hf.1).kid hE h1;exact⟨exprL c x :: rs,⟨_,_,rfl,hkid,hks⟩,by rw [orL_cons,hor,exprL],by simp [argsN,hlen]⟩
end Go.Proofs.YtechofppmnnomaaGreatDoor
