/- Some texts in one. -/
import Derived.Lib.Repeat
import Derived.Lib.Replace
import Derived.Deep.DeepCutAuto
import Derived.Deep.CutBlock
import Derived.Test.YtojkkgghndeimaaGreatDoorR7
import Derived.Test.YtojkkgghndeimaaGreatDoorR9
import Derived.Test.YtojkkgghndeimaaGreatDoorR21
namespace Go.Mq.Ref
open Go Go.RowKit Go.Mq Go.Mq.Tree
theorem join_take {l:List (List UInt8)} {s x:List UInt8} {i:Nat} (h : l[i]?=some x):Lib.join (l.take (i + 1)) s=(if i=0 then [] else Lib.join (l.take i) s ++ s) ++ x:=by
 cases l with
 | nil=>simp at h
 | cons y r=>
  cases i with
  | zero=>simp at h; subst h; simp [Lib.join_one]
  | succ i=>
   simp only [List.getElem?_cons_succ] at h
   simp only [List.take_succ_cons,Lib.join_cons,Lib.joinTail_take_succ s r i x h]
   simp
theorem join_take_le (l:List (List UInt8)) (s:List UInt8) (i:Nat) : (Lib.join (l.take i) s).length≤(Lib.join l s).length:=by
 cases l with
 | nil=>simp
 | cons y r=>
  cases i with
  | zero=>simp [Lib.join_nil]
  | succ i=>
   have:=Lib.joinTail_take_le s r i
   simp only [List.take_succ_cons,Lib.join_cons,List.length_append]
   omega
def tabs (d:Nat):List UInt8:=Lib.repeatL [32,32] d
theorem tabs_one : tabs 1=[32,32]:=rfl
theorem tabs_succ (d:Nat) : tabs (d + 1)=tabs d ++ [32,32]:=by rw [tabs,Lib.repeatL_add,Lib.repeatL_one]; rfl
end Go.Mq.Ref
namespace Go.Proofs.YtojkkgghndeimaaGreatDoor
open Go Go.RowKit Go.Mq Go.Mq.Tree Go.Mq.Ref
set_option maxRecDepth 100000
set_option maxHeartbeats 4000000
theorem rlev_idx (k:Nat) (hk : k < 5) : ∃ lv s,levels[k]?=some lv∧rlevels[k]?=some s ∧ ∀ w,(Instr.index 225 (.agg #[str [111,114],str [97,110,100],str [61,32,35,32,60,32,60,61,32,62,32,62,61],str [43,32,45],str [42,32,100,105,118,32,109,111,100]]) (.int .i64 k)).run Tryz.prog w = .ok (str s) w:=by
 match k,hk with
 | 0,_=>exact ⟨_,_,rfl,rfl,fun _=>rfl⟩
 | 1,_=>exact ⟨_,_,rfl,rfl,fun _=>rfl⟩
 | 2,_=>exact ⟨_,_,rfl,rfl,fun _=>rfl⟩
 | 3,_=>exact ⟨_,_,rfl,rfl,fun _=>rfl⟩
 | 4,_=>exact ⟨_,_,rfl,rfl,fun _=>rfl⟩
theorem rholds_not (b:Nat) (k:Int) (hk : k≠5) (w:World) (B:Nat) (hL:RLaid w B) (h0 : w.cell? ⟨b,0,none⟩=some (.int .i64 k)):Calls Tryz.prog 128 #[ptr b] w (fun e w'=>e = .returned (num 5)∧w'=w):=by
 have hk1 : (k == 5)=false:=by simpa using hk
 have l0:=hL.lev 0 _ rfl; have l1:=hL.lev 1 _ rfl; have l2:=hL.lev 2 _ rfl; have l3:=hL.lev 3 _ rfl; have l4:=hL.lev 4 _ rfl
 clear hk hL
 go_enter Tryz.func128,Tryz.ntmps128
 go_wp2_with fail
 go_loopw [3,4,6] (fun _ _ i wr=>∃ j:Nat,j≤5∧i=num j∧w=wr) (fun _ _ i _=>5 - (intOf i).toNat)
 case atStart=>exact ⟨0,by omega,rfl,rfl⟩
 case round=>
  obtain ⟨j,hj,rfl,rfl⟩:=hrel
  cases hc : decide ((j:Int) < 5) with
  | false=>
   go_wp2_with fail
   go_ret
   exact ⟨rfl,rfl⟩
  | true=>
   have hj5 : j < 5:=by have:=of_decide_eq_true hc; omega
   obtain ⟨lv,s,_,_,hidx⟩:=rlev_idx j hj5
   go_wp2_with fail
   refine ⟨⟨j + 1,by omega,by go_num,by first | rfl | trivial⟩,by simp [intOf]; omega⟩
theorem rholds_bin (b:Nat) (op:List UInt8) (w:World) (B:Nat) (h0 : w.cell? ⟨b,0,none⟩=some (.int .i64 5)) (h5 : w.cell? ⟨b,5,none⟩=some (str op)) (hL:RLaid w B) (hop : op.length≤10) (hin : ∃ (i:Nat) (l:List (List UInt8)),levels[i]?=some l∧op∈l) :
  Calls Tryz.prog 128 #[ptr b] w (fun e w'=>e = .returned (num (opLevel op))∧w'=w):=by
 have l0:=hL.lev 0 _ rfl; have l1:=hL.lev 1 _ rfl; have l2:=hL.lev 2 _ rfl; have l3:=hL.lev 3 _ rfl; have l4:=hL.lev 4 _ rfl
 have H:=Lib.hid hL; have HI:=Lib.hid hin
 clear hL hin
 go_enter Tryz.func128,Tryz.ntmps128
 go_wp2_with fail
 go_loopw [3,4,6] (fun _ _ i wr=>∃ j:Nat,j≤5∧i=num j∧(∀ (i:Nat) (l':List (List UInt8)),i < j→levels[i]?=some l'→op∉l')∧w=wr) (fun _ _ i _=>5 - (intOf i).toNat)
 case atStart=>exact ⟨0,by omega,rfl,fun i l' hi=>by omega,rfl⟩
 case round=>
  obtain ⟨j,hj,rfl,hno,rfl⟩:=hrel
  have HN:=Lib.hid hno
  clear hno
  cases hc : decide ((j:Int) < 5) with
  | false=>
   have hj5 : j=5:=by have:=of_decide_eq_false hc; omega
   obtain ⟨i,l,hi,hm⟩:=HI.out
   exact absurd hm (HN.out i l (by have:=(List.getElem?_eq_some_iff.mp hi).1; rw [hj5]; simpa [levels] using this) hi)
  | true=>
   have hj5 : j < 5:=by have:=of_decide_eq_true hc; omega
   obtain ⟨lv,s,hlv,hs,hidx⟩:=rlev_idx j hj5
   have hw:=lv_words j lv s hlv hs
   have HO:=Lib.hid (roneOf_any H.out op s lv hw.1 hw.2.1 (by omega) hw.2.2)
   have HLV:=Lib.hid hlv
   clear hw hlv hs
   go_wp2_with fail
   refine HO.out.mono ?_; rintro _ wx ⟨rfl,hwx⟩; subst wx
   cases hcn : lv.contains op with
   | true=>
    have HR:=Lib.hid (opLevel_of HLV.out (by simpa using hcn) HN.out)
    go_wp2_with fail
    go_ret
    exact ⟨by rw [HR.out]; rfl,rfl⟩
   | false=>
    have HCN:=Lib.hid (show op∉lv by simpa using hcn)
    go_wp2_with fail
    refine ⟨⟨j + 1,by omega,by go_num,fun i l' hi hl=>?_,by first | rfl | trivial⟩,by simp [intOf]; omega⟩
    by_cases h : i < j
    ·exact HN.out i l' h hl
    ·have : i=j:=by omega
     subst this
     rw [HLV.out] at hl
     cases hl
     exact HCN.out
theorem rholds_any (x:E) (hx : x.isX) (hw:WF x) (F:Nat→Prop) (u:Value) (w:World) (B:Nat) (hL:RLaid w B) (h:EAt w F x [u]):Calls Tryz.prog 128 #[u] w (fun e w'=>e = .returned (num (lvl x))∧w'=w):=by
 cases x with
 | num p n=>obtain ⟨b,hb,_,h1⟩:=h; cases hb; exact rholds_not b 1 (by decide) w B hL (h1.cell 0 _ rfl)
 | var p m n=>obtain ⟨b,hb,_,h1⟩:=h; cases hb; exact rholds_not b 2 (by decide) w B hL (h1.cell 0 _ rfl)
 | item p m n i=>obtain ⟨b,_,hb,_,h1,_⟩:=h; cases hb; exact rholds_not b 3 (by decide) w B hL (h1.cell 0 _ rfl)
 | un p op x=>obtain ⟨b,_,hb,_,h1,_⟩:=h; cases hb; exact rholds_not b 4 (by decide) w B hL (h1.cell 0 _ rfl)
 | bin p op x y=>
  obtain ⟨b,_,_,hb,_,h1,_⟩:=h; cases hb
  obtain ⟨k,hk,hop⟩:=hw.1
  refine rholds_bin b op w B (h1.cell 0 _ rfl) (h1.cell 5 _ rfl) hL (op_len k hk op hop) ⟨4 - k,levels.getD (4 - k) [],?_,hop⟩
  have : k=0∨k=1∨k=2∨k=3∨k=4:=by omega
  rcases this with rfl | rfl | rfl | rfl | rfl <;> rfl
 | app p m n l=>obtain ⟨b,_,_,_,hb,_,h1,_⟩:=h; cases hb; exact rholds_not b 6 (by decide) w B hL (h1.cell 0 _ rfl)
 | nil=>exact hx.elim
 | cons _ _=>exact hx.elim
def RTextOK (x:E):Prop:=∀ (F:Nat→Prop) (u:Value) (w:World) (B:Nat),RLaid w B→EAt w F x [u]→(text x).length≤1099511627776→Said 72 #[u] w (bs (text x))
theorem rwithin_of (x:E) (hx : x.isX) (hw:WF x) (hT:RTextOK x) (lv:Nat) (F:Nat→Prop) (u:Value) (w:World) (B:Nat) (hL:RLaid w B) (h:EAt w F x [u]) (hlen : (text x).length≤1099511627776):Said 127 #[u,num lv] w (bs (within lv x (text x))):=by
 have hs:=hT F u w B hL h hlen
 obtain ⟨t,ht⟩ : ∃ t:ByteArray,t=bs (text x):=⟨_,rfl⟩
 have hsz : t.size≤1099511627776:=by rw [ht]; exact hlen
 rw [← ht] at hs
 have HT:=Lib.hid hs
 have HV:=Lib.hid (rholds_any x hx hw F u w B hL h)
 have HR:=Lib.hid (show bs (within lv x (text x))=if lv≤lvl x then t else bs [40] ++ t ++ bs [41] by rw [within,ht,apply_ite bs,bs_append,bs_append])
 clear hs ht hL h hT hx hlen hw
 unfold Said
 rw [HR.out]
 by_cases hle : lv≤lvl x
 case' pos=>rw [if_pos hle]
 case' neg=>rw [if_neg hle]
 all_goals
  go_enter Tryz.func127,Tryz.ntmps127
  go_wp2_with fail
  refine HV.out.mono ?_; rintro _ wx ⟨rfl,hwx⟩; subst wx
  go_wp2_with fail
  refine HT.out.mono ?_; rintro _ w2 ⟨rfl,hc⟩
  have HC:=Lib.hid hc; clear hc
  go_wp2_with fail
  go_ret
  exact ⟨rfl,HC.out⟩
theorem extra154:Builder.Extra Tryz.prog Tryz.lays154_ren:={
 sizeBuilder:=by kernel_rfl
 liesBuilder:=by kernel_rfl
 t5:=Tryz.underlying5
 a5:=Tryz.isAgg5
 z5:=Tryz.sizeOf5
 v5:=Tryz.zeroValue5
 infoByte:=by kernel_rfl
 cellsByte:=by kernel_rfl
 sizeByte:=by kernel_rfl
 neB5:=by decide }
theorem rreplace {w:World} {B:Nat} (hL:RLaid w B) (op:List UInt8) (h : op=[110,111,116]∨op=[45]):Calls Tryz.prog 126 #[str op,.string ⟨#[110,111,116]⟩,.string ⟨#[110,111,116,32]⟩,num 1] w (fun e w'=>e = .returned (str (if op=[110,111,116] then [110,111,116,32] else [45]))∧Chg [] w w'):=by
 obtain ⟨m,hm⟩:=hL.mx
 rcases h with rfl | rfl
 ·refine (Any.strings_Replace Tryz.lays154 extra154 (bs [110,111,116]) ⟨#[110,111,116]⟩ ⟨#[110,111,116,32]⟩ 1 m w (by decide) hm (by decide) (by decide)).mono ?_
  rintro _ _ ⟨rfl,hb⟩
  exact ⟨by rw [if_pos rfl]; rfl,Chg.of_below hb⟩
 ·refine (Any.strings_Replace Tryz.lays154 extra154 (bs [45]) ⟨#[110,111,116]⟩ ⟨#[110,111,116,32]⟩ 1 m w (by decide) hm (by decide) (by decide)).mono ?_
  rintro _ _ ⟨rfl,hb⟩
  exact ⟨by rw [if_neg (by decide)]; rfl,Chg.of_below hb⟩
theorem qualT_le {m n:List UInt8} (hm : m.length≤1099511627776) (hn : n.length≤1099511627776) : (bs (qualT m n)).size≤2199023255553:=by
 rw [bs_size,qualT]; split
 ·omega
 ·simp; omega
theorem qual_bs (m n:List UInt8) : (m=[]→bs n=bs (qualT m n))∧(m≠[]→bs m ++ bs [46] ++ bs n=bs (qualT m n)):=by
 refine ⟨fun h=>by rw [qualT,if_pos h],fun h=>by rw [qualT,if_neg h,bs_append,bs_append]⟩
theorem rtext_num_ok (p:Nat) (n:Int) (h0 : 0≤n) (h1 : n≤9223372036854775807):RTextOK (.num p n):=by
 intro F u w B hL h _
 obtain ⟨b,hb,_,hbk⟩:=h
 cases hb
 have HF:=Lib.hid (fmt_any n h0 h1 w B hL.laid)
 have c0:=hbk.cell 0 _ rfl; have c2:=hbk.cell 2 _ rfl; have c3:=hbk.cell 3 _ rfl; have c4:=hbk.cell 4 _ rfl; have c5:=hbk.cell 5 _ rfl; have c6:=hbk.cell 6 _ rfl; have c7:=hbk.cell 7 _ rfl; have c8:=hbk.cell 8 _ rfl
 clear hL hbk h0 h1
 go_enter Tryz.func72,Tryz.ntmps72
 go_wp2_with fail
 refine HF.out.mono ?_; rintro _ w2 ⟨rfl,hc⟩
 have HC:=Lib.hid hc; clear hc
 go_wp2_with fail
 go_ret
 exact ⟨rfl,HC.out⟩
theorem rtext_var_ok (p:Nat) (m n:List UInt8) (hm : m.length≤1099511627776) (hn : n.length≤1099511627776):RTextOK (.var p m n):=by
 intro F u w B hL h hlen
 obtain ⟨b,hb,_,hbk⟩:=h
 cases hb
 have c0:=hbk.cell 0 _ rfl; have c2:=hbk.cell 2 _ rfl; have c3:=hbk.cell 3 _ rfl; have c4:=hbk.cell 4 _ rfl; have c5:=hbk.cell 5 _ rfl; have c6:=hbk.cell 6 _ rfl; have c7:=hbk.cell 7 _ rfl; have c8:=hbk.cell 8 _ rfl
 obtain ⟨q,hq⟩ : ∃ q:ByteArray,q=bs (qualT m n):=⟨_,rfl⟩
 have hqz : q.size≤2199023255553:=by rw [hq]; exact qualT_le hm hn
 have HQ:=Lib.hid (qual_bs m n)
 rw [← hq] at HQ
 have HR:=Lib.hid (show bs (text (.var p m n))=q by rw [hq]; rfl)
 clear hL hbk hlen hq
 go_enter Tryz.func72,Tryz.ntmps72
 go_upto_if 15 with fail
 go_cut [3] (fun s3 wx=>s3 = .string q∧w=wx)
 case first=>
  cases hme:List.isEmpty m with
  | true=>
   have HN:=Lib.hid (HQ.out.1 (by simpa using hme))
   go_wp2_with fail
   go_meet
   exact ⟨by rw [← HN.out],rfl⟩
  | false=>
   have HN:=Lib.hid (HQ.out.2 (by simpa using hme))
   go_wp2_with fail
   go_meet
   exact ⟨by rw [← HN.out],rfl⟩
 case rest=>
  obtain ⟨rfl,rfl⟩:=hcut
  go_wp2_with fail
  go_ret
  exact ⟨by rw [HR.out]; rfl,Chg.refl _ _⟩
theorem rtext_item_ok (p:Nat) (m n:List UInt8) (i:E) (hm : m.length≤1099511627776) (hn : n.length≤1099511627776) (hT:RTextOK i):RTextOK (.item p m n i):=by
 intro F u w B hL h hlen
 obtain ⟨b,u1,hb,_,hbk,hx⟩:=h
 cases hb
 have c0:=hbk.cell 0 _ rfl; have c2:=hbk.cell 2 _ rfl; have c3:=hbk.cell 3 _ rfl; have c4:=hbk.cell 4 _ rfl; have c5:=hbk.cell 5 _ rfl; have c6:=hbk.cell 6 _ rfl; have c7:=hbk.cell 7 _ rfl; have c8:=hbk.cell 8 _ rfl
 have hlen' : (text i).length≤1099511627776:=by have:=hlen; simp only [text,List.length_append] at this; omega
 obtain ⟨t,ht⟩ : ∃ t:ByteArray,t=bs (text i):=⟨_,rfl⟩
 have hsz : t.size≤1099511627776:=by rw [ht]; exact hlen'
 have HT:=Lib.hid (show Said 72 #[u1] w t from by rw [ht]; exact hT F u1 w B hL hx hlen')
 obtain ⟨q,hq⟩ : ∃ q:ByteArray,q=bs (qualT m n):=⟨_,rfl⟩
 have hqz : q.size≤2199023255553:=by rw [hq]; exact qualT_le hm hn
 have HQ:=Lib.hid (qual_bs m n)
 rw [← hq] at HQ
 have HR:=Lib.hid (show bs (text (.item p m n i))=q ++ bs [91] ++ t ++ bs [93] by rw [text,bs_append,bs_append,bs_append,ht,hq])
 clear hL hbk hlen hlen' hT hx hq ht
 go_enter Tryz.func72,Tryz.ntmps72
 go_upto_if 15 with fail
 go_cut [3] (fun s3 wx=>s3 = .string q∧w=wx)
 case first=>
  cases hme:List.isEmpty m with
  | true=>
   have HN:=Lib.hid (HQ.out.1 (by simpa using hme))
   go_wp2_with fail
   go_meet
   exact ⟨by rw [← HN.out],rfl⟩
  | false=>
   have HN:=Lib.hid (HQ.out.2 (by simpa using hme))
   go_wp2_with fail
   go_meet
   exact ⟨by rw [← HN.out],rfl⟩
 case rest=>
  obtain ⟨rfl,rfl⟩:=hcut
  go_wp2_with fail
  refine HT.out.mono ?_; rintro _ w2 ⟨rfl,hc⟩
  have HC:=Lib.hid hc; clear hc
  go_wp2_with fail
  go_ret
  exact ⟨by rw [HR.out]; rfl,HC.out⟩
theorem rtext_un_ok (p:Nat) (op:List UInt8) (x:E) (hop : op=[110,111,116]∨op=[45]) (hX : x.isX) (hw:WF x) (hT:RTextOK x):RTextOK (.un p op x):=by
 intro F u w B hL h hlen
 obtain ⟨b,u1,hb,_,hbk,hx⟩:=h
 cases hb
 have c0:=hbk.cell 0 _ rfl; have c2:=hbk.cell 2 _ rfl; have c3:=hbk.cell 3 _ rfl; have c4:=hbk.cell 4 _ rfl; have c5:=hbk.cell 5 _ rfl; have c6:=hbk.cell 6 _ rfl; have c7:=hbk.cell 7 _ rfl; have c8:=hbk.cell 8 _ rfl
 have hlen2 : (within 5 x (text x)).length≤1099511627776:=by have h2:=hlen; simp only [text,List.length_append] at h2; omega
 have hlen' : (text x).length≤1099511627776:=Nat.le_trans (within_ge 5 x (text x)) hlen2
 obtain ⟨t,ht⟩ : ∃ t:ByteArray,t=bs (within 5 x (text x)):=⟨_,rfl⟩
 have hsz : t.size≤1099511627776:=by rw [ht]; exact hlen2
 obtain ⟨r,hr⟩ : ∃ r:ByteArray,r=bs (if op=[110,111,116] then [110,111,116,32] else [45]):=⟨_,rfl⟩
 have hrz : r.size≤10:=by rw [hr,bs_size]; split <;> decide
 have HT:=Lib.hid (show ∀ w',Chg [] w w'→Said 127 #[u1,num 5] w' t from fun w' hc=>by rw [ht]; exact rwithin_of x hX hw hT 5 F u1 w' B (hL.kept hc (by simp)) (hx.kept hc (by simp)) hlen')
 have HP:=Lib.hid (show ∀ w',Chg [] w w'→Calls Tryz.prog 126 #[str op,.string ⟨#[110,111,116]⟩,.string ⟨#[110,111,116,32]⟩,num 1] w' (fun e w2=>e = .returned (.string r)∧Chg [] w' w2) from fun w' hc=>by rw [hr]; exact rreplace (hL.kept hc (by simp)) op hop)
 have HR:=Lib.hid (show bs (text (.un p op x))=r ++ t by rw [ht,hr,text,← bs_append])
 clear hL hbk hlen hlen' hlen2 hT hx ht hX hr hop hw
 go_enter Tryz.func72,Tryz.ntmps72
 have HLT:=Lib.hid (show b < w.drew.heap.size from lt_of_cell c0)
 go_wp2_with fail
 refine wp_region_C [] rfl (by kernel_rfl) ?_
 have hS:Chg [] w.drew w.drew:=Chg.refl _ _
 repeat ((with_reducible refine gX ?_); (first | refine wpX_nil ?_ | refine sK ?_ | refine sM fun _ _=>?_ | refine sL fun _ _=>?_ | refine sE fun _ _=>?_); go_wp2_with fail)
 refine (HP.out _ ((Chg.drew (Chg.refl [] w)).then hS)).mono ?_; rintro _ _ ⟨rfl,hw⟩; have hS:=Chg.then (by assumption) hw; have hk:=Chg.cells hS HLT.out (by simp); clear hw
 go_wp2_with fail
 refine And.intro (by assumption:Chg _ _ _) ?_
 repeat ((with_reducible refine gX ?_); (first | refine wpX_nil ?_ | refine sK ?_ | refine sM fun _ _=>?_ | refine sL fun _ _=>?_ | refine sE fun _ _=>?_); go_wp2_with fail)
 refine (HT.out _ ((Chg.drew (Chg.refl [] w)).then (by assumption))).mono ?_; rintro _ _ ⟨rfl,hw⟩; have hS:=Chg.then (by assumption) hw; have hk:=Chg.cells hS HLT.out (by simp); clear hw
 go_wp2_with fail
 refine And.intro (by assumption:Chg _ _ _) ?_
 repeat ((with_reducible refine gX ?_); (first | refine wpX_nil ?_ | refine sK ?_ | refine sM fun _ _=>?_ | refine sL fun _ _=>?_ | refine sE fun _ _=>?_); go_wp2_with fail)
 have HC:=Lib.hid ((Chg.drew (Chg.refl [] w)).then (by assumption))
 go_ret
 exact ⟨by rw [HR.out]; rfl,HC.out⟩
theorem rtext_bin_ok (p:Nat) (op:List UInt8) (x y:E) (hop : op.length≤10) (hol : opLevel op < 5) (hW:WF (.bin p op x y)) (hX : x.isX) (hY : y.isX) (hWx:WF x) (hWy:WF y) (hT1:RTextOK x) (hT2:RTextOK y):RTextOK (.bin p op x y):=by
 intro F u w B hL h hlen
 have HV:=Lib.hid (show ∀ w',Chg [] w w'→Calls Tryz.prog 128 #[u] w' (fun e w2=>e = .returned (num (opLevel op))∧w2=w') from fun w' hc=>rholds_any (.bin p op x y) trivial hW F u w' B (hL.kept hc (by simp)) (EAt.kept hc (by simp) h))
 obtain ⟨b,u1,u2,hb,_,hbk,hx1,hx2⟩:=h
 cases hb
 have c0:=hbk.cell 0 _ rfl; have c2:=hbk.cell 2 _ rfl; have c3:=hbk.cell 3 _ rfl; have c4:=hbk.cell 4 _ rfl; have c5:=hbk.cell 5 _ rfl; have c6:=hbk.cell 6 _ rfl; have c7:=hbk.cell 7 _ rfl; have c8:=hbk.cell 8 _ rfl
 have h2:=hlen
 simp only [text,List.length_append] at h2
 have hl1 : (text x).length≤1099511627776:=by have h3:=within_ge (opLevel op) x (text x); omega
 have hl2 : (text y).length≤1099511627776:=by have h3:=within_ge (opLevel op + 1) y (text y); omega
 obtain ⟨t1,ht1⟩ : ∃ t:ByteArray,t=bs (within (opLevel op) x (text x)):=⟨_,rfl⟩
 obtain ⟨t2,ht2⟩ : ∃ t:ByteArray,t=bs (within (opLevel op + 1) y (text y)):=⟨_,rfl⟩
 obtain ⟨tq,hto⟩ : ∃ t:ByteArray,t=bs op:=⟨_,rfl⟩
 have hz1 : t1.size≤1099511627776:=by rw [ht1,bs_size]; omega
 have hz2 : t2.size≤1099511627776:=by rw [ht2,bs_size]; omega
 have hz3 : tq.size≤10:=by rw [hto]; exact hop
 have HT1:=Lib.hid (show ∀ w',Chg [] w w'→Said 127 #[u1,num (opLevel op)] w' t1 from fun w' hc=>by rw [ht1]; exact rwithin_of x hX hWx hT1 _ F u1 w' B (hL.kept hc (by simp)) (hx1.kept hc (by simp)) hl1)
 have HT2:=Lib.hid (show ∀ w',Chg [] w w'→Said 127 #[u2,num ((opLevel op:Int) + 1)] w' t2 from fun w' hc=>by rw [ht2]; exact rwithin_of y hY hWy hT2 (opLevel op + 1) F u2 w' B (hL.kept hc (by simp)) (hx2.kept hc (by simp)) hl2)
 have HR:=Lib.hid (show bs (text (.bin p op x y))=t1 ++ bs [32] ++ tq ++ bs [32] ++ t2 by rw [ht1,ht2,hto,text,bs_append,bs_append,bs_append,bs_append])
 have c5' : w.cell? ⟨b,5,none⟩=some (.string tq):=by rw [hto]; exact c5
 obtain ⟨lv,hlv⟩ : ∃ lv,lv=opLevel op:=⟨_,rfl⟩
 rw [← hlv] at HT1 HT2 HV hol
 clear hL hbk hlen hT1 hT2 hx1 hx2 ht1 ht2 hX hY hto hop h2 hl1 hl2 hlv c5 hW hWx hWy
 have HLT:=Lib.hid (show b < w.drew.heap.size from lt_of_cell c0)
 go_enter Tryz.func72,Tryz.ntmps72
 go_wp2_with fail
 refine wp_region_C [] rfl (by kernel_rfl) ?_
 have hS:Chg [] w.drew w.drew:=Chg.refl _ _
 repeat ((with_reducible refine gX ?_); (first | refine wpX_nil ?_ | refine sK ?_ | refine sM fun _ _=>?_ | refine sL fun _ _=>?_ | refine sE fun _ _=>?_); go_wp2_with fail)
 refine (HV.out _ ((Chg.drew (Chg.refl [] w)).then hS)).mono ?_; rintro _ wx ⟨rfl,hwx⟩; subst wx
 go_wp2_with fail
 refine And.intro (by assumption:Chg _ _ _) ?_
 repeat ((with_reducible refine gX ?_); (first | refine wpX_nil ?_ | refine sK ?_ | refine sM fun _ _=>?_ | refine sL fun _ _=>?_ | refine sE fun _ _=>?_); go_wp2_with fail)
 refine (HT1.out _ ((Chg.drew (Chg.refl [] w)).then hS)).mono ?_; rintro _ _ ⟨rfl,hw⟩; have hS:=Chg.then (by assumption) hw; have hk:=Chg.cells hS HLT.out (by simp); clear hw
 go_wp2_with fail
 refine And.intro (by assumption:Chg _ _ _) ?_
 repeat ((with_reducible refine gX ?_); (first | refine wpX_nil ?_ | refine sK ?_ | refine sM fun _ _=>?_ | refine sL fun _ _=>?_ | refine sE fun _ _=>?_); go_wp2_with fail)
 refine (HV.out _ ((Chg.drew (Chg.refl [] w)).then (by assumption))).mono ?_; rintro _ wx ⟨rfl,hwx⟩; subst wx
 go_wp2_with fail
 refine And.intro (by assumption:Chg _ _ _) ?_
 repeat ((with_reducible refine gX ?_); (first | refine wpX_nil ?_ | refine sK ?_ | refine sM fun _ _=>?_ | refine sL fun _ _=>?_ | refine sE fun _ _=>?_); go_wp2_with fail)
 refine (HT2.out _ ((Chg.drew (Chg.refl [] w)).then (by assumption))).mono ?_; rintro _ _ ⟨rfl,hw⟩; have hS:=Chg.then (by assumption) hw; have hk:=Chg.cells hS HLT.out (by simp); clear hw
 go_wp2_with fail
 refine And.intro (by assumption:Chg _ _ _) ?_
 repeat ((with_reducible refine gX ?_); (first | refine wpX_nil ?_ | refine sK ?_ | refine sM fun _ _=>?_ | refine sL fun _ _=>?_ | refine sE fun _ _=>?_); go_wp2_with fail)
 have HC:=Lib.hid ((Chg.drew (Chg.refl [] w)).then (by assumption))
 go_ret
 exact ⟨by rw [HR.out]; rfl,HC.out⟩
theorem rtext_app_ok (p:Nat) (m n:List UInt8) (l:E) (hm : m.length≤1099511627776) (hn : n.length≤1099511627776) (hl : l.isL) (hw:WF l) (hT : ∀ y∈l.list,RTextOK y):RTextOK (.app p m n l):=by
 intro F u w B hL h hlen
 obtain ⟨b,a,c,vs,hb,_,hbk,hvc,hrow,hx⟩:=h
 cases hb
 have c0:=hbk.cell 0 _ rfl; have c2:=hbk.cell 2 _ rfl; have c3:=hbk.cell 3 _ rfl; have c4:=hbk.cell 4 _ rfl; have c5:=hbk.cell 5 _ rfl; have c6:=hbk.cell 6 _ rfl; have c7:=hbk.cell 7 _ rfl; have c8:=hbk.cell 8 _ rfl
 obtain ⟨hvl,hel⟩:=EAt.elems l vs hl hw hx
 have htl:=text_list l hl hw
 obtain ⟨L,hLL⟩ : ∃ L,L=l.list.map text:=⟨_,rfl⟩
 have hLl:L.length=vs.length:=by rw [hLL,hvl]; simp
 have hjl : (Lib.join L [44,32]).length≤1099511627776:=by have h2:=hlen; simp only [text,List.length_append] at h2; rw [htl,← hLL] at h2; omega
 have hjg:=join_ge [44,32] (by decide) L
 have hvn : vs.length≤1099511627777:=by have:=hjg.1; omega
 have HEL:=Lib.hid (show ∀ (k:Nat),k < vs.length → ∃ b' o u ty,a=some ⟨b',o,none⟩∧w.cell? ⟨b',o + k,none⟩=some u∧L[k]?=some ty∧ty.length≤1099511627776 ∧ ∀ w',Chg [] w w'→Said 72 #[u] w' (bs ty) from fun k hk=>by
  obtain ⟨y,hy⟩ : ∃ y,l.list[k]?=some y:=⟨l.list[k]'(by omega),List.getElem?_eq_getElem (by omega)⟩
  obtain ⟨u,hu,hxu⟩:=hel k y hy
  obtain ⟨b',o,rfl,hcell⟩:=hrow.at_ (by have:=(List.getElem?_eq_some_iff.1 hu).1; omega)
  have hyl : (text y).length≤1099511627776:=Nat.le_trans (hjg.2 _ (by rw [hLL]; exact List.mem_map_of_mem (List.mem_of_getElem? hy))) hjl
  exact ⟨b',o,u,text y,rfl,hcell k u hu,by rw [hLL,List.getElem?_map,hy]; rfl,hyl,fun w' hc=>hT y (List.mem_of_getElem? hy) F u w' B (hL.kept hc (by simp)) (hxu.kept hc (by simp)) hyl⟩)
 obtain ⟨t,ht⟩ : ∃ t:ByteArray,t=bs (Lib.join L [44,32]):=⟨_,rfl⟩
 have hsz : t.size≤1099511627776:=by rw [ht]; exact hjl
 have HJL:=Lib.hid hjl; have Ht:=Lib.hid ht
 obtain ⟨q,hq⟩ : ∃ q:ByteArray,q=bs (qualT m n):=⟨_,rfl⟩
 have hqz : q.size≤2199023255553:=by rw [hq]; exact qualT_le hm hn
 have HQ:=Lib.hid (qual_bs m n)
 rw [← hq] at HQ
 have HR:=Lib.hid (show bs (text (.app p m n l))=q ++ bs [40] ++ t ++ bs [41] by rw [text,bs_append,bs_append,bs_append,hq,ht,htl,hLL])
 clear hL hbk hlen hT hx hrow hel hjg hjl ht hl hw htl hvc hq hvl hLL c2 c5 c6 c7
 go_enter Tryz.func72,Tryz.ntmps72
 go_upto_if 15 with fail
 go_cut [3] (fun s3 wx=>s3 = .string q∧w=wx)
 case first=>
  cases hme:List.isEmpty m with
  | true=>
   have HN:=Lib.hid (HQ.out.1 (by simpa using hme))
   go_wp2_with fail
   go_meet
   exact ⟨by rw [← HN.out],rfl⟩
  | false=>
   have HN:=Lib.hid (HQ.out.2 (by simpa using hme))
   go_wp2_with fail
   go_meet
   exact ⟨by rw [← HN.out],rfl⟩
 case rest=>
  obtain ⟨rfl,rfl⟩:=hcut
  go_wp2_with fail
  go_loopw [4,5,6,91] (fun s _ _ i wr=>∃ k:Nat,k≤vs.length∧i=num k∧s=str (Lib.join (L.take k) [44,32])∧Chg [] w wr) (fun _ _ _ i _=>vs.length - (intOf i).toNat)
  case atStart=>exact ⟨0,Nat.zero_le _,rfl,rfl,Chg.refl _ _⟩
  case round=>
   obtain ⟨k,hk,rfl,rfl,hc⟩:=hrel
   have HC:=Lib.hid hc
   clear hc
   obtain ⟨z,hz⟩ : ∃ z:ByteArray,z=bs (Lib.join (L.take k) [44,32]):=⟨_,rfl⟩
   have hzz : z.size≤1099511627776:=by rw [hz,bs_size]; exact Nat.le_trans (join_take_le L _ k) HJL.out
   rw [str,← hz]
   by_cases hlt : k < vs.length
   ·obtain ⟨b',o,u,ty,rfl,hcell,hty,htz,hsaid⟩:=HEL.out k hlt
    have hcell':=HC.out.cellSome hcell (by simp)
    have HS:=Lib.hid (hsaid wr HC.out)
    have HTY:=Lib.hid (join_take (s:=[44,32]) hty)
    obtain ⟨tb,htb⟩ : ∃ tb:ByteArray,tb=bs ty:=⟨_,rfl⟩
    have htz' : tb.size≤1099511627776:=by rw [htb]; exact htz
    rw [← htb] at HS
    have HTB:=Lib.hid htb; have HZ:=Lib.hid hz
    clear hcell hsaid hty htz htb hz
    cases k with
    | zero=>
     rw [Nat.add_zero] at hcell'
     go_wp2_with fail
     refine HS.out.mono ?_; rintro _ w2 ⟨rfl,hc2⟩
     have HC2:=Lib.hid (HC.out.then hc2); clear hc2
     go_wp2_with fail
     refine ⟨⟨1,by omega,by go_num,?_,HC2.out⟩,by simp [intOf] <;> omega⟩
     rw [HTY.out,HZ.out,HTB.out]; show Value.string (bs [] ++ bs ty)=_; rw [← bs_append]; rfl
    | succ k=>
     have hgt : decide ((0:Int) < ((k + 1:Nat):Int))=true:=by simp <;> omega
     go_wp2_with fail
     refine HS.out.mono ?_; rintro _ w2 ⟨rfl,hc2⟩
     have HC2:=Lib.hid (HC.out.then hc2); clear hc2
     go_wp2_with fail
     refine ⟨⟨k + 2,by omega,by go_num,?_,HC2.out⟩,by simp [intOf] <;> omega⟩
     rw [HTY.out,HZ.out,HTB.out,if_neg (by omega),str,bs_append,bs_append]
   ·have hke : k=vs.length:=by omega
    have HZ:=Lib.hid (show z=t by rw [hz,Ht.out,hke,← hLl,List.take_length])
    clear hz
    go_wp2_with fail
    go_ret
    exact ⟨by rw [HR.out,HZ.out]; rfl,HC.out⟩
theorem rtext_all : ∀ x:E,WF x→(x.isX→RTextOK x)∧(x.isL → ∀ y∈x.list,RTextOK y)
 | .num p n,h=>⟨fun _=>rtext_num_ok p n h.1 h.2,fun h=>h.elim⟩
 | .var p m n,h=>⟨fun _=>rtext_var_ok p m n (qm_len h.1) (nm_len h.2),fun h=>h.elim⟩
 | .item p m n i,h=>⟨fun _=>rtext_item_ok p m n i (qm_len h.1) (nm_len h.2.1) ((rtext_all i h.2.2.1).1 h.2.2.2),fun h=>h.elim⟩
 | .un p op x,h=>⟨fun _=>rtext_un_ok p op x (by rcases h.1 with h | h <;> simp [h]) h.2.2 h.2.1 ((rtext_all x h.2.1).1 h.2.2),fun h=>h.elim⟩
 | .bin p op x y,h=>⟨fun _=>by
   obtain ⟨k,hk,hop⟩:=h.1
   have h5:=op_level k hk op hop
   exact rtext_bin_ok p op x y (op_len k hk op hop) (by omega) h h.2.1.2 h.2.2.2 h.2.1.1 h.2.2.1 ((rtext_all x h.2.1.1).1 h.2.1.2) ((rtext_all y h.2.2.1).1 h.2.2.2),fun h=>h.elim⟩
 | .app p m n l,h=>⟨fun _=>rtext_app_ok p m n l (qm_len h.1) (nm_len h.2.1) h.2.2.2 h.2.2.1 ((rtext_all l h.2.2.1).2 h.2.2.2),fun h=>h.elim⟩
 | .nil,_=>⟨fun h=>h.elim,fun _ y hy=>by cases hy⟩
 | .cons x r,h=>⟨fun h=>h.elim,fun _ y hy=>by
   have h1:=(rtext_all x h.1.1).1 h.1.2
   have h2:=(rtext_all r h.2.1).2 h.2.2
   simp only [E.list,List.mem_cons] at hy
   rcases hy with rfl | hy
   ·exact h1
   ·exact h2 y hy⟩
end Go.Proofs.YtojkkgghndeimaaGreatDoor
namespace Go.Mq.Tree
open Go Go.RowKit Go.Mq
theorem SAt.spelt {w:World} {F:Nat→Prop} {s:S} {d:Nat} (hw:WFS d s) (h0 : s ≠ .nil) {cs:List Value} (h:SAt w F s cs) : ∃ (k p:Int) (nm:ByteArray) (x y a1 a2:Option Addr) (n1 c1 n2 c2:Nat) (cs':List Value),cs = .int .i64 k :: .int .i64 p :: .string nm :: .pointer x :: .pointer y :: .slice a1 n1 c1 :: .slice a2 n2 c2 :: cs':=by
 cases s with
 | nil=>exact absurd rfl h0
 | set p n i v r=>
  obtain ⟨ui,uv,cs',rfl,hi,hx,hr⟩:=h
  obtain ⟨bv,rfl⟩:=EAt.ptrX hw.2.2.1.1.2 hx
  cases i with
  | none=>obtain rfl : ui=nilp:=hi; exact ⟨_,_,_,_,_,_,_,_,_,_,_,_,rfl⟩
  | some ix=>obtain ⟨bi,rfl⟩:=EAt.ptrX (hw.2.1 ix rfl).1.2 hi; exact ⟨_,_,_,_,_,_,_,_,_,_,_,_,rfl⟩
 | ifs p v t e r=>
  obtain ⟨uv,a1,c1,ts,a2,c2,es,cs',rfl,hx,_⟩:=h
  obtain ⟨bv,rfl⟩:=EAt.ptrX hw.1.1.2 hx
  exact ⟨_,_,_,_,_,_,_,_,_,_,_,_,rfl⟩
 | whil p v t r=>
  obtain ⟨uv,a1,c1,ts,cs',rfl,hx,_⟩:=h
  obtain ⟨bv,rfl⟩:=EAt.ptrX hw.1.1.2 hx
  exact ⟨_,_,_,_,_,_,_,_,_,_,_,_,rfl⟩
 | ret p v r=>
  obtain ⟨uv,cs',rfl,hx,_⟩:=h
  obtain ⟨bv,rfl⟩:=EAt.ptrX hw.1.1.2 hx
  exact ⟨_,_,_,_,_,_,_,_,_,_,_,_,rfl⟩
 | wri p v r=>
  obtain ⟨uv,cs',rfl,hx,_⟩:=h
  obtain ⟨bv,rfl⟩:=EAt.ptrX hw.1.1.2 hx
  exact ⟨_,_,_,_,_,_,_,_,_,_,_,_,rfl⟩
 | call p v r=>
  obtain ⟨uv,cs',rfl,hx,_⟩:=h
  obtain ⟨bv,rfl⟩:=EAt.ptrX hw.1.1.1.2 hx
  exact ⟨_,_,_,_,_,_,_,_,_,_,_,_,rfl⟩
theorem tab_le (s:S) (tab:List UInt8) (h0 : s ≠ .nil) : tab.length + 2≤(stmtsT s tab).length:=by
 cases s <;> first | exact absurd rfl h0 | (simp only [stmtsT,List.length_append,List.length_cons,List.length_nil]; omega)
end Go.Mq.Tree
namespace Go.Proofs.YtojkkgghndeimaaGreatDoor
open Go Go.RowKit Go.Mq Go.Mq.Tree Go.Mq.Ref
set_option maxRecDepth 100000
set_option maxHeartbeats 8000000
theorem extra105:Builder.Extra Tryz.prog Tryz.lays105_ren:={
 sizeBuilder:=by kernel_rfl
 liesBuilder:=by kernel_rfl
 t5:=Tryz.underlying5
 a5:=Tryz.isAgg5
 z5:=Tryz.sizeOf5
 v5:=Tryz.zeroValue5
 infoByte:=by kernel_rfl
 cellsByte:=by kernel_rfl
 sizeByte:=by kernel_rfl
 neB5:=by decide }
theorem rrepeat (w:World) (d:Nat) (hd : d≤1099511627776):Calls Tryz.prog 122 #[.string ⟨#[32,32]⟩,num d] w (fun e w'=>e = .returned (str (tabs d))∧Chg [] w w'):=by
 refine (Any.strings_Repeat Tryz.lays105 extra105 ⟨#[32,32]⟩ d w (by omega) (by show 2 * d≤_; omega)).mono ?_
 rintro _ _ ⟨rfl,hb⟩
 exact ⟨rfl,Chg.of_below hb⟩
theorem tabs_len (d:Nat) : (tabs d).length=d * 2:=by rw [tabs,Lib.repeatL_length]; rfl
def RStmtsOK (s:S):Prop:=∀ (F:Nat→Prop) (v:Value) (w:World) (B deep:Nat),RLaid w B→SlAt w F s v→deep≤1099511627776→(stmtsT s (tabs deep)).length≤1099511627776→Said 70 #[v,num deep] w (bs (stmtsT s (tabs deep)))
theorem rsaid_of {x:E} {lv d:Nat} (h:Fits d lv x) {F:Nat→Prop} {u:Value} {w w':World} {B:Nat} (hL:RLaid w B) (hx:EAt w F x [u]) (hw:Chg [] w w') (hl : (text x).length≤1099511627776) :
  Said 72 #[u] w' (bs (text x)):=(rtext_all x h.1.1).1 h.1.2 F u w' B (hL.kept hw (by simp)) (hx.kept hw (by simp)) hl
theorem rstmts_ok (s:S) (d:Nat) (hw:WFS d s) (ha:AllS RStmtsOK s):RStmtsOK s:=by
 intro F v w B deep hL hv hdeep hlen
 obtain ⟨a,c,cs,rfl,hc,hrow,hcs⟩:=hv
 have HL:=Lib.hid hL; have HROW:=Lib.hid hrow; have HCS:=Lib.hid hcs; have HA:=Lib.hid ha; have HWF:=Lib.hid hw
 have HLEN:=Lib.hid hlen
 have hsl : s.len≤1099511627776:=by have h1:=stmts_len s (tabs deep); omega
 have HREP:=Lib.hid (rrepeat w deep hdeep)
 obtain ⟨tab,htab⟩ : ∃ t,t=tabs deep:=⟨_,rfl⟩
 have HTAB:=Lib.hid htab
 have HTL:=Lib.hid (show tab.length=deep * 2 by rw [htab,tabs_len])
 rw [← htab] at HLEN HREP ⊢
 obtain ⟨tb,htb⟩ : ∃ t:ByteArray,t=bs tab:=⟨_,rfl⟩
 have htz : tb.size≤2199023255552:=by rw [htb,bs_size]; have:=HTL.out; omega
 rw [str,← htb] at HREP
 have HTB:=Lib.hid htb
 clear hL hrow hcs ha hw hlen htab htb
 go_enter Tryz.func70,Tryz.ntmps70
 go_wp2_with fail
 refine HREP.out.mono ?_; rintro _ w0 ⟨rfl,hc0⟩
 have HC0:=Lib.hid hc0; clear hc0
 go_wp2_with fail
 go_loopw [6,8,9,14] (fun o _ _ i wr=>∃ (k:Nat) (rest:S) (l1:List UInt8) (cs1 cs2:List Value),o=str l1∧i=num k∧k + rest.len=s.len∧cs=cs1 ++ cs2∧cs1.length=k * 7∧SAt w F rest cs2∧Chg [] w wr∧l1 ++ stmtsT rest tab=stmtsT s tab∧AllS RStmtsOK rest∧WFS d rest) (fun _ _ _ i _=>s.len - (intOf i).toNat)
 case atStart=>exact ⟨0,s,[],[],cs,rfl,rfl,by simp,rfl,rfl,HCS.out,HC0.out,rfl,HA.out,HWF.out⟩
 case round=>
  obtain ⟨k,rest,l1,cs1,cs2,rfl,rfl,hk,hcse,hl1,hat,hwr,htx,hal,hwf⟩:=hrel
  have HTX:=Lib.hid htx
  have hln:=HLEN.out
  rw [← htx] at hln
  have HLN:=Lib.hid (app_len hln)
  clear htx hln
  obtain ⟨o,ho⟩ : ∃ t:ByteArray,t=bs l1:=⟨_,rfl⟩
  have hoz : o.size≤1099511627776:=by rw [ho,bs_size]; have:=HLN.out; omega
  rw [str,← ho]
  have HO:=Lib.hid ho
  have HWR:=Lib.hid hwr
  clear ho hwr
  by_cases h0 : rest = .nil
  ·subst h0
   have hke : k=s.len:=by simpa [S.len] using hk
   clear hat hal hwf hcse hk
   go_wp2_with fail
   go_ret
   have e:=HTX.out
   simp only [stmtsT,List.append_nil] at e
   exact ⟨by rw [HO.out,e]; rfl,HWR.out⟩
  ·have hlt : k < s.len:=by cases rest <;> simp only [S.len] at hk <;> first | omega | exact absurd rfl h0
   have htl:=tab_le rest tab h0
   obtain ⟨k0,p0,nm,x,y,a1,a2,n1,c1,n2,c2,cs',rfl⟩:=hat.spelt hwf h0
   have hrw:=HROW.out.kept HWR.out (by simp)
   rw [hcse] at hrw
   obtain ⟨bb,off,rfl,d0,d1,d2,d3,d4,d5,d6⟩:=cells7 hrw hl1
   have HAT:=Lib.hid hat; have HAL:=Lib.hid hal; have HWS:=Lib.hid hwf; have HCSE:=Lib.hid hcse; have HK:=Lib.hid hk; have HL1:=Lib.hid hl1; have HNN:=Lib.hid h0; have HTLE:=Lib.hid htl
   clear hat hal hwf hcse hk hl1 hrw h0 htl
   go_upto_region 5 with fail
   go_cut [8] (fun s8 wx=>∃ bx:Nat,s8=ptr bx∧Blk wx bx #[.int .i64 k0,.int .i64 p0,.string nm,.pointer x,.pointer y,.slice a1 n1 c1,.slice a2 n2 c2] 138∧Chg [] w wx)
   case first=>
    have hz:=Blk.new wr #[.int .i64 0,.int .i64 0,str [],nilp,nilp,nils,nils] 138
    obtain ⟨wA,hwA⟩ : ∃ wA,wr.alloc (.cells #[.int .i64 0,.int .i64 0,str [],nilp,nilp,nils,nils] 138)=wA:=⟨_,rfl⟩
    rw [hwA] at hz
    have hcA:Chg [] wr wA:=by rw [← hwA]; exact (Chg.refl _ _).alloc _
    obtain ⟨wF,hwF,hcF,hbF⟩:=set7P (.int .i64 k0) (.int .i64 p0) (.string nm) (.pointer x) (.pointer y) (.slice a1 n1 c1) (.slice a2 n2 c2) hz
    have HCW:=Lib.hid (HWR.out.then (hcA.trans hcF (fun x hx=>.inr (by simp at hx; omega))))
    have g0:=hcA.cellSome d0 (by simp); have g1:=hcA.cellSome d1 (by simp); have g2:=hcA.cellSome d2 (by simp); have g3:=hcA.cellSome d3 (by simp); have g4:=hcA.cellSome d4 (by simp); have g5:=hcA.cellSome d5 (by simp); have g6:=hcA.cellSome d6 (by simp)
    obtain ⟨z0,z1,z2,z3,z4,z5,z6⟩:=hz.seven
    have y0:=hz.frozen 0; have y1:=hz.frozen 1; have y2:=hz.frozen 2; have y3:=hz.frozen 3; have y4:=hz.frozen 4; have y5:=hz.frozen 5; have y6:=hz.frozen 6
    have HB0:=Lib.hid hbF
    clear hcA hcF hbF hz
    go_wp2_with fail
    go_meet
    case rel=>exact ⟨_,rfl,HB0.out,HCW.out⟩
   case rest=>
    obtain ⟨bx,rfl,hbx,hcx⟩:=hcut
    clear d0 d1 d2 d3 d4 d5 d6
    obtain ⟨e0,e1,e2,e3,e4,e5,e6⟩:=hbx.seven
    have HBX:=Lib.hid hbx; have HCX:=Lib.hid hcx
    clear hbx hcx
    cases rest with
    | nil=>exact absurd rfl HNN.out
    | ret p v r=>
     obtain ⟨uv,cs'',he,hx,hr⟩:=HAT.out
     simp only [List.cons.injEq,Value.int.injEq,Value.string.injEq,true_and] at he
     obtain ⟨rfl,rfl,rfl,h3,rfl,h5,h6,rfl⟩:=he
     cases h3; cases h5; cases h6
     have hwf0:=HWS.out
     have hwf:=HWS.out; have hal:=HAL.out; have hk:=HK.out; have hln:=HLN.out
     simp only [AllS] at hal
     simp only [stmtsT,List.length_append,List.length_cons,List.length_nil] at hln
     have HLM:=Lib.hid hln; have HFW:=Lib.hid hwf; have HAL2:=Lib.hid hal
     simp only [S.len] at hk
     have HK2:=Lib.hid hk
     clear hln hk hwf hal
     obtain ⟨tv,htv⟩ : ∃ t:ByteArray,t=bs (text v):=⟨_,rfl⟩
     have hztv : tv.size≤1099511627776:=by rw [htv,bs_size]; have:=HLM.out; omega
     have Htv:=Lib.hid (show ∀ w',Chg [] w w'→Said 72 #[_] w' tv from fun w' hc=>by rw [htv]; exact rsaid_of HFW.out.1 HL.out hx hc (by have:=HLM.out; omega))
     have Etv:=Lib.hid htv
     clear htv
     have HR:=Lib.hid hr
     clear hr hx hwf0
     go_wp2_with fail
     refine (Htv.out wc HCX.out).mono ?_; rintro _ w2 ⟨rfl,hc2⟩
     have HCw2:=Lib.hid (HCX.out.then hc2)
     clear hc2
     go_wp2_with fail
     go_roundw
     case rel=>
      refine ⟨k + 1,r,l1 ++ (tab ++ [114,101,116,117,114,110,32] ++ text v ++ [59,10]),cs1 ++ [.int .i64 4,.int .i64 p,str [],nilp,.pointer y,nils,nils],_,?_,by go_num,by have:=HK2.out; omega,by rw [HCSE.out]; simp,by simp [HL1.out]; omega,HR.out,HCw2.out,?_,HAL2.out,HFW.out.2⟩
      ·rw [HO.out,HTB.out,Etv.out]
       show Value.string (bs l1 ++ (bs tab ++ bs [114,101,116,117,114,110,32] ++ bs (text v)) ++ bs [59,10])=_
       simp only [← bs_append,str,List.append_assoc]
      ·rw [← HTX.out]
       simp [stmtsT]
     case measure=>simp [intOf] <;> omega
    | wri p v r=>
     obtain ⟨uv,cs'',he,hx,hr⟩:=HAT.out
     simp only [List.cons.injEq,Value.int.injEq,Value.string.injEq,true_and] at he
     obtain ⟨rfl,rfl,rfl,h3,rfl,h5,h6,rfl⟩:=he
     cases h3; cases h5; cases h6
     have hwf0:=HWS.out
     have hwf:=HWS.out; have hal:=HAL.out; have hk:=HK.out; have hln:=HLN.out
     simp only [AllS] at hal
     simp only [stmtsT,List.length_append,List.length_cons,List.length_nil] at hln
     have HLM:=Lib.hid hln; have HFW:=Lib.hid hwf; have HAL2:=Lib.hid hal
     simp only [S.len] at hk
     have HK2:=Lib.hid hk
     clear hln hk hwf hal
     obtain ⟨tv,htv⟩ : ∃ t:ByteArray,t=bs (text v):=⟨_,rfl⟩
     have hztv : tv.size≤1099511627776:=by rw [htv,bs_size]; have:=HLM.out; omega
     have Htv:=Lib.hid (show ∀ w',Chg [] w w'→Said 72 #[_] w' tv from fun w' hc=>by rw [htv]; exact rsaid_of HFW.out.1 HL.out hx hc (by have:=HLM.out; omega))
     have Etv:=Lib.hid htv
     clear htv
     have HR:=Lib.hid hr
     clear hr hx hwf0
     go_wp2_with fail
     refine (Htv.out wc HCX.out).mono ?_; rintro _ w2 ⟨rfl,hc2⟩
     have HCw2:=Lib.hid (HCX.out.then hc2)
     clear hc2
     go_wp2_with fail
     go_roundw
     case rel=>
      refine ⟨k + 1,r,l1 ++ (tab ++ [119,114,105,116,101,32] ++ text v ++ [59,10]),cs1 ++ [.int .i64 5,.int .i64 p,str [],nilp,.pointer y,nils,nils],_,?_,by go_num,by have:=HK2.out; omega,by rw [HCSE.out]; simp,by simp [HL1.out]; omega,HR.out,HCw2.out,?_,HAL2.out,HFW.out.2⟩
      ·rw [HO.out,HTB.out,Etv.out]
       show Value.string (bs l1 ++ (bs tab ++ bs [119,114,105,116,101,32] ++ bs (text v)) ++ bs [59,10])=_
       simp only [← bs_append,str,List.append_assoc]
      ·rw [← HTX.out]
       simp [stmtsT]
     case measure=>simp [intOf] <;> omega
    | call p v r=>
     obtain ⟨uv,cs'',he,hx,hr⟩:=HAT.out
     simp only [List.cons.injEq,Value.int.injEq,Value.string.injEq,true_and] at he
     obtain ⟨rfl,rfl,rfl,h3,rfl,h5,h6,rfl⟩:=he
     cases h3; cases h5; cases h6
     have hwf0:=HWS.out
     have hwf:=HWS.out; have hal:=HAL.out; have hk:=HK.out; have hln:=HLN.out
     simp only [AllS] at hal
     simp only [stmtsT,List.length_append,List.length_cons,List.length_nil] at hln
     have HLM:=Lib.hid hln; have HFW:=Lib.hid hwf; have HAL2:=Lib.hid hal
     simp only [S.len] at hk
     have HK2:=Lib.hid hk
     clear hln hk hwf hal
     obtain ⟨tv,htv⟩ : ∃ t:ByteArray,t=bs (text v):=⟨_,rfl⟩
     have hztv : tv.size≤1099511627776:=by rw [htv,bs_size]; have:=HLM.out; omega
     have Htv:=Lib.hid (show ∀ w',Chg [] w w'→Said 72 #[_] w' tv from fun w' hc=>by rw [htv]; exact rsaid_of HFW.out.1.1 HL.out hx hc (by have:=HLM.out; omega))
     have Etv:=Lib.hid htv
     clear htv
     have HR:=Lib.hid hr
     clear hr hx hwf0
     go_wp2_with fail
     refine (Htv.out wc HCX.out).mono ?_; rintro _ w2 ⟨rfl,hc2⟩
     have HCw2:=Lib.hid (HCX.out.then hc2)
     clear hc2
     go_wp2_with fail
     go_roundw
     case rel=>
      refine ⟨k + 1,r,l1 ++ (tab ++ text v ++ [59,10]),cs1 ++ [.int .i64 6,.int .i64 p,str [],nilp,.pointer y,nils,nils],_,?_,by go_num,by have:=HK2.out; omega,by rw [HCSE.out]; simp,by simp [HL1.out]; omega,HR.out,HCw2.out,?_,HAL2.out,HFW.out.2⟩
      ·rw [HO.out,HTB.out,Etv.out]
       show Value.string (bs l1 ++ (bs tab ++ bs (text v)) ++ bs [59,10])=_
       simp only [← bs_append,str,List.append_assoc]
      ·rw [← HTX.out]
       simp [stmtsT]
     case measure=>simp [intOf] <;> omega
    | set p n i v r=>
     obtain ⟨ui,uv,cs'',he,hi,hx,hr⟩:=HAT.out
     simp only [List.cons.injEq,Value.int.injEq,Value.string.injEq,true_and] at he
     obtain ⟨rfl,rfl,rfl,h3,h4,h5,h6,rfl⟩:=he
     cases h4; cases h5; cases h6
     have hwf:=HWS.out; have hal:=HAL.out; have hk:=HK.out; have hln:=HLN.out
     simp only [AllS] at hal
     simp only [stmtsT,List.length_append,List.length_cons,List.length_nil] at hln
     have HLM:=Lib.hid hln; have HFW:=Lib.hid hwf; have HAL2:=Lib.hid hal
     simp only [S.len] at hk
     have HK2:=Lib.hid hk
     clear hln hk hwf hal
     obtain ⟨tv,htv⟩ : ∃ t:ByteArray,t=bs (text v):=⟨_,rfl⟩
     have hztv : tv.size≤1099511627776:=by rw [htv,bs_size]; have:=HLM.out; omega
     have Htv:=Lib.hid (show ∀ w',Chg [] w w'→Said 72 #[_] w' tv from fun w' hc=>by rw [htv]; exact rsaid_of HFW.out.2.2.1 HL.out hx hc (by have:=HLM.out; omega))
     have Etv:=Lib.hid htv
     clear htv
     have HR:=Lib.hid hr
     obtain ⟨nb,hnb⟩ : ∃ t:ByteArray,t=bs n:=⟨_,rfl⟩
     have hzn : nb.size≤10:=by rw [hnb,bs_size]; exact HFW.out.1.2.2
     rw [← hnb] at e2 HBX
     have HNB:=Lib.hid hnb
     clear hr hx hnb
     cases i with
     | none=>
      obtain rfl : ui=nilp:=hi
      cases h3
      go_wp2_with fail
      refine (Htv.out wc HCX.out).mono ?_; rintro _ w2 ⟨rfl,hc2⟩
      have HCw2:=Lib.hid (HCX.out.then hc2)
      clear hc2
      go_wp2_with fail
      go_roundw
      case rel=>
       refine ⟨k + 1,r,l1 ++ (tab ++ n ++ [32,58,61,32] ++ text v ++ [59,10]),cs1 ++ [.int .i64 1,.int .i64 p,str n,nilp,.pointer y,nils,nils],_,?_,by go_num,by have:=HK2.out; omega,by rw [HCSE.out]; simp,by simp [HL1.out]; omega,HR.out,HCw2.out,?_,HAL2.out,HFW.out.2.2.2⟩
       ·rw [HO.out,HTB.out,Etv.out,HNB.out]
        show Value.string (bs l1 ++ (bs tab ++ bs n ++ bs [32,58,61,32] ++ bs (text v)) ++ bs [59,10])=_
        simp only [← bs_append,str,List.append_assoc]
       ·rw [← HTX.out]
        simp [stmtsT]
      case measure=>simp [intOf] <;> omega
     | some ix=>
      obtain ⟨bi,rfl⟩:=EAt.ptrX (HFW.out.2.1 ix rfl).1.2 hi
      cases h3
      have hln:=HLM.out
      simp only [List.length_append,List.length_cons,List.length_nil] at hln
      have HLM:=Lib.hid hln; clear hln
      obtain ⟨ti,hti⟩ : ∃ t:ByteArray,t=bs (text ix):=⟨_,rfl⟩
      have hzti : ti.size≤1099511627776:=by rw [hti,bs_size]; have:=HLM.out; omega
      have Hti:=Lib.hid (show ∀ w',Chg [] w w'→Said 72 #[_] w' ti from fun w' hc=>by rw [hti]; exact rsaid_of (HFW.out.2.1 ix rfl) HL.out hi hc (by have:=HLM.out; omega))
      have Eti:=Lib.hid hti
      clear hti
      clear hi
      go_wp2_with fail
      refine (Hti.out wc HCX.out).mono ?_; rintro _ w2 ⟨rfl,hc2⟩
      have HCw2:=Lib.hid (HCX.out.then hc2)
      obtain ⟨e0,e1,e2,e3,e4,e5,e6⟩:=(HBX.out.kept hc2 (by simp)).seven
      clear hc2
      go_wp2_with fail
      refine (Htv.out w2 HCw2.out).mono ?_; rintro _ w3 ⟨rfl,hc2⟩
      have HCw3:=Lib.hid (HCw2.out.then hc2)
      clear hc2
      go_wp2_with fail
      go_roundw
      case rel=>
       refine ⟨k + 1,r,l1 ++ (tab ++ n ++ ([91] ++ text ix ++ [93]) ++ [32,58,61,32] ++ text v ++ [59,10]),cs1 ++ [.int .i64 1,.int .i64 p,str n,ptr bi,.pointer y,nils,nils],_,?_,by go_num,by have:=HK2.out; omega,by rw [HCSE.out]; simp,by simp [HL1.out]; omega,HR.out,HCw3.out,?_,HAL2.out,HFW.out.2.2.2⟩
       ·rw [HO.out,HTB.out,Etv.out,Eti.out,HNB.out]
        show Value.string (bs l1 ++ (bs tab ++ (bs n ++ (bs [91] ++ bs (text ix) ++ bs [93])) ++ bs [32,58,61,32] ++ bs (text v)) ++ bs [59,10])=_
        simp only [← bs_append,str,List.append_assoc]
       ·rw [← HTX.out]
        simp [stmtsT]
      case measure=>simp [intOf] <;> omega
    | whil p v t r=>
     obtain ⟨uv,a1',c1',ts,cs'',he,hx,htc,hrt,hat,hr⟩:=HAT.out
     simp only [List.cons.injEq,Value.int.injEq,Value.string.injEq,true_and] at he
     obtain ⟨rfl,rfl,rfl,h3,rfl,h5,h6,rfl⟩:=he
     cases h3; cases h5; cases h6
     have hwf:=HWS.out; have hal:=HAL.out; have hk:=HK.out; have hln:=HLN.out
     simp only [AllS] at hal
     simp only [stmtsT,List.length_append,List.length_cons,List.length_nil] at hln
     have HLM:=Lib.hid hln; have HFW:=Lib.hid hwf; have HAL2:=Lib.hid hal
     simp only [S.len] at hk
     have HK2:=Lib.hid hk
     clear hln hk hwf hal
     obtain ⟨tv,htv⟩ : ∃ t:ByteArray,t=bs (text v):=⟨_,rfl⟩
     have hztv : tv.size≤1099511627776:=by rw [htv,bs_size]; have:=HLM.out; omega
     have Htv:=Lib.hid (show ∀ w',Chg [] w w'→Said 72 #[_] w' tv from fun w' hc=>by rw [htv]; exact rsaid_of HFW.out.1 HL.out hx hc (by have:=HLM.out; omega))
     have Etv:=Lib.hid htv
     clear htv
     obtain ⟨tt,htt⟩ : ∃ z:ByteArray,z=bs (stmtsT t (tab ++ [32,32])):=⟨_,rfl⟩
     have hztt : tt.size≤1099511627776:=by rw [htt,bs_size]; have:=HLM.out; omega
     have Htt:=Lib.hid (show ∀ w',Chg [] w w'→Said 70 #[.slice a1 t.len c1,num ((deep:Int) + 1)] w' tt from fun w' hc=>by
      have h1:=HAL2.out.1 F (.slice a1 t.len c1) w' B (deep + 1) (HL.out.kept hc (by simp)) (⟨_,_,_,rfl,htc,hrt.kept hc (by simp),hat.kept hc (by simp)⟩) (by have:=HTLE.out; have:=HTL.out; have:=HLN.out; omega) (by rw [tabs_succ,← HTAB.out]; have:=HLM.out; omega)
      rw [tabs_succ,← HTAB.out,← htt] at h1
      exact h1)
     have Ett:=Lib.hid htt
     clear htt
     have HR:=Lib.hid hr
     have hdp : deep≤1099511627776:=hdeep
     clear hr hx hrt hat
     have HLT:=Lib.hid (show bx < wc.drew.heap.size from lt_of_cell e0)
     have HDW:=Lib.hid (HCX.out.then (Chg.refl [] wc).drew)
     go_wp2_with fail
     refine wp_region_C [] rfl (by kernel_rfl) ?_
     obtain ⟨wD,hwD⟩ : ∃ x,x=wc.drew:=⟨_,rfl⟩
     rw [← hwD] at HDW HLT ⊢
     have hS:Chg [] wD wD:=Chg.refl _ _
     obtain ⟨e0,e1,e2,e3,e4,e5,e6⟩:=(HBX.out.kept (show Chg [] wc wD by rw [hwD]; exact (Chg.refl [] wc).drew) (by simp)).seven
     clear hwD
     repeat ((with_reducible refine gX ?_); (first | refine wpX_nil ?_ | refine sK ?_ | refine sM fun _ _=>?_ | refine sL fun _ _=>?_ | refine sE fun _ _=>?_); go_wp2_with fail)
     refine (Htv.out _ (HDW.out.then hS)).mono ?_; rintro _ w2 ⟨rfl,hw⟩; have hS2:=Chg.then hS hw; have hk:=Chg.cells hS2 HLT.out (by simp); clear hw
     go_wp2_with fail
     refine And.intro (by assumption:Chg _ _ _) ?_
     repeat ((with_reducible refine gX ?_); (first | refine wpX_nil ?_ | refine sK ?_ | refine sM fun _ _=>?_ | refine sL fun _ _=>?_ | refine sE fun _ _=>?_); go_wp2_with fail)
     refine (Htt.out _ (HDW.out.then hS2)).mono ?_; rintro _ w3 ⟨rfl,hw⟩; have hS3:=Chg.then hS2 hw; have hk3:=Chg.cells hS3 HLT.out (by simp)
     have HCw3:=Lib.hid (HDW.out.then hS3); clear hw
     go_wp2_with fail
     refine And.intro (by assumption:Chg _ _ _) ?_
     repeat ((with_reducible refine gX ?_); (first | refine wpX_nil ?_ | refine sK ?_ | refine sM fun _ _=>?_ | refine sL fun _ _=>?_ | refine sE fun _ _=>?_); go_wp2_with fail)
     go_wp2_with fail
     go_roundw
     case rel=>
      refine ⟨k + 1,r,l1 ++ (tab ++ [119,104,105,108,101,32] ++ text v ++ [32,100,111,10] ++ stmtsT t (tab ++ [32,32]) ++ tab ++ [101,110,100] ++ [59,10]),cs1 ++ [.int .i64 3,.int .i64 p,str [],nilp,.pointer y,.slice a1 t.len c1,nils],_,?_,by go_num,by have:=HK2.out; omega,by rw [HCSE.out]; simp,by simp [HL1.out]; omega,HR.out,HCw3.out,?_,HAL2.out.2,HFW.out.2.2⟩
      ·rw [HO.out,HTB.out,Etv.out,Ett.out]
       show Value.string (bs l1 ++ (bs tab ++ bs [119,104,105,108,101,32] ++ bs (text v) ++ bs [32,100,111,10] ++ bs (stmtsT t (tab ++ [32,32])) ++ bs tab ++ bs [101,110,100]) ++ bs [59,10])=_
       simp only [← bs_append,str,List.append_assoc]
      ·rw [← HTX.out]
       simp [stmtsT]
     case measure=>simp [intOf] <;> omega
    | ifs p v t e r=>
     obtain ⟨uv,a1',c1',ts,a2',c2',es,cs'',he,hx,htc,hrt,hat,hec,hre,hae,hr⟩:=HAT.out
     simp only [List.cons.injEq,Value.int.injEq,Value.string.injEq,true_and] at he
     obtain ⟨rfl,rfl,rfl,h3,rfl,h5,h6,rfl⟩:=he
     cases h3; cases h5; cases h6
     have hwf:=HWS.out; have hal:=HAL.out; have hk:=HK.out; have hln:=HLN.out
     simp only [AllS] at hal
     simp only [stmtsT,List.length_append,List.length_cons,List.length_nil] at hln
     have HLM:=Lib.hid hln; have HFW:=Lib.hid hwf; have HAL2:=Lib.hid hal
     simp only [S.len] at hk
     have HK2:=Lib.hid hk
     clear hln hk hwf hal
     have hlen0 : (stmtsT e (tab ++ [32,32])).length≤1099511627776:=by
      have h1:=HLM.out
      cases hz : e.isNil with
      | true=>cases e <;> first | (simp [S.isNil] at hz; done) | simp [stmtsT]
      | false=>simp only [hz,Bool.false_eq_true,if_false,List.length_append] at h1; omega
     obtain ⟨tv,htv⟩ : ∃ t:ByteArray,t=bs (text v):=⟨_,rfl⟩
     have hztv : tv.size≤1099511627776:=by rw [htv,bs_size]; have:=HLM.out; omega
     have Htv:=Lib.hid (show ∀ w',Chg [] w w'→Said 72 #[_] w' tv from fun w' hc=>by rw [htv]; exact rsaid_of HFW.out.1 HL.out hx hc (by have:=HLM.out; omega))
     have Etv:=Lib.hid htv
     clear htv
     obtain ⟨tt,htt⟩ : ∃ z:ByteArray,z=bs (stmtsT t (tab ++ [32,32])):=⟨_,rfl⟩
     have hztt : tt.size≤1099511627776:=by rw [htt,bs_size]; have:=HLM.out; omega
     have Htt:=Lib.hid (show ∀ w',Chg [] w w'→Said 70 #[.slice a1 t.len c1,num ((deep:Int) + 1)] w' tt from fun w' hc=>by
      have h1:=HAL2.out.1 F (.slice a1 t.len c1) w' B (deep + 1) (HL.out.kept hc (by simp)) (⟨_,_,_,rfl,htc,hrt.kept hc (by simp),hat.kept hc (by simp)⟩) (by have:=HTLE.out; have:=HTL.out; have:=HLN.out; omega) (by rw [tabs_succ,← HTAB.out]; have:=HLM.out; omega)
      rw [tabs_succ,← HTAB.out,← htt] at h1
      exact h1)
     have Ett:=Lib.hid htt
     clear htt
     obtain ⟨te,hte⟩ : ∃ z:ByteArray,z=bs (stmtsT e (tab ++ [32,32])):=⟨_,rfl⟩
     have hzte : te.size≤1099511627776:=by rw [hte,bs_size]; exact hlen0
     have Hte:=Lib.hid (show ∀ w',Chg [] w w'→Said 70 #[.slice a2 e.len c2,num ((deep:Int) + 1)] w' te from fun w' hc=>by
      have h1:=HAL2.out.2.1 F (.slice a2 e.len c2) w' B (deep + 1) (HL.out.kept hc (by simp)) (⟨_,_,_,rfl,hec,hre.kept hc (by simp),hae.kept hc (by simp)⟩) (by have:=HTLE.out; have:=HTL.out; have:=HLN.out; omega) (by rw [tabs_succ,← HTAB.out]; exact hlen0)
      rw [tabs_succ,← HTAB.out,← hte] at h1
      exact h1)
     have Ete:=Lib.hid hte
     clear hte
     have HR:=Lib.hid hr
     have hdp : deep≤1099511627776:=hdeep
     clear hr hx hrt hat hre hae hlen0
     have hee : e.isNil=decide (e.len=0):=by cases e <;> simp [S.isNil,S.len]
     have HEE:=Lib.hid hee; clear hee
     have hlc:=hdeep
     cases hzn : decide (0 < e.len) with
     | true=>
      have HEN:=Lib.hid (show e.isNil=false by rw [HEE.out]; simpa [Nat.pos_iff_ne_zero] using hzn)
      have hgt : decide ((0:Int) < (e.len:Int))=true:=by simp at hzn ⊢; omega
      have HLT:=Lib.hid (show bx < wc.drew.heap.size from lt_of_cell e0)
      have HDW:=Lib.hid (HCX.out.then (Chg.refl [] wc).drew)
      go_wp2_with fail
      refine wp_region_C [] rfl (by kernel_rfl) ?_
      obtain ⟨wD,hwD⟩ : ∃ x,x=wc.drew:=⟨_,rfl⟩
      rw [← hwD] at HDW HLT ⊢
      have hS:Chg [] wD wD:=Chg.refl _ _
      obtain ⟨e0,e1,e2,e3,e4,e5,e6⟩:=(HBX.out.kept (show Chg [] wc wD by rw [hwD]; exact (Chg.refl [] wc).drew) (by simp)).seven
      clear hwD
      repeat ((with_reducible refine gX ?_); (first | refine wpX_nil ?_ | refine sK ?_ | refine sM fun _ _=>?_ | refine sL fun _ _=>?_ | refine sE fun _ _=>?_); go_wp2_with fail)
      refine (Htv.out _ (HDW.out.then hS)).mono ?_; rintro _ w2 ⟨rfl,hw⟩; have hS2:=Chg.then hS hw; have hk:=Chg.cells hS2 HLT.out (by simp); clear hw
      go_wp2_with fail
      refine And.intro (by assumption:Chg _ _ _) ?_
      repeat ((with_reducible refine gX ?_); (first | refine wpX_nil ?_ | refine sK ?_ | refine sM fun _ _=>?_ | refine sL fun _ _=>?_ | refine sE fun _ _=>?_); go_wp2_with fail)
      refine (Htt.out _ (HDW.out.then hS2)).mono ?_; rintro _ w3 ⟨rfl,hw⟩; have hS3:=Chg.then hS2 hw; have hk3:=Chg.cells hS3 HLT.out (by simp)
      have HCw3:=Lib.hid (HDW.out.then hS3); clear hw
      go_wp2_with fail
      refine And.intro (by assumption:Chg _ _ _) ?_
      repeat ((with_reducible refine gX ?_); (first | refine wpX_nil ?_ | refine sK ?_ | refine sM fun _ _=>?_ | refine sL fun _ _=>?_ | refine sE fun _ _=>?_); go_wp2_with fail)
      go_wp2_with fail
      refine (Hte.out w3 HCw3.out).mono ?_; rintro _ w4 ⟨rfl,hc2⟩
      have HCw4:=Lib.hid (HCw3.out.then hc2)
      clear hc2
      go_wp2_with fail
      go_roundw
      case rel=>
       refine ⟨k + 1,r,l1 ++ (tab ++ [105,102,32] ++ text v ++ [32,116,104,101,110,10] ++ stmtsT t (tab ++ [32,32]) ++ tab ++ [101,108,115,101,10] ++ stmtsT e (tab ++ [32,32]) ++ tab ++ [101,110,100] ++ [59,10]),cs1 ++ [.int .i64 2,.int .i64 p,str [],nilp,.pointer y,.slice a1 t.len c1,.slice a2 e.len c2],_,?_,by go_num,by have:=HK2.out; omega,by rw [HCSE.out]; simp,by simp [HL1.out]; omega,HR.out,HCw4.out,?_,HAL2.out.2.2,HFW.out.2.2⟩
       ·rw [HO.out,HTB.out,Etv.out,Ett.out,Ete.out]
        show Value.string (bs l1 ++ (bs tab ++ bs [105,102,32] ++ bs (text v) ++ bs [32,116,104,101,110,10] ++ bs (stmtsT t (tab ++ [32,32]))) ++ (bs tab ++ bs [101,108,115,101,10] ++ bs (stmtsT e (tab ++ [32,32]))) ++ (bs tab ++ bs [101,110,100]) ++ bs [59,10])=_
        simp only [← bs_append,str,List.append_assoc]
       ·rw [← HTX.out]
        simp [stmtsT,HEN.out]
      case measure=>simp [intOf] <;> omega
     | false=>
      have HEN:=Lib.hid (show e.isNil=true by rw [HEE.out]; simpa [Nat.pos_iff_ne_zero] using hzn)
      have hgt : decide ((0:Int) < (e.len:Int))=false:=by simp at hzn ⊢; omega
      have HLT:=Lib.hid (show bx < wc.drew.heap.size from lt_of_cell e0)
      have HDW:=Lib.hid (HCX.out.then (Chg.refl [] wc).drew)
      go_wp2_with fail
      refine wp_region_C [] rfl (by kernel_rfl) ?_
      obtain ⟨wD,hwD⟩ : ∃ x,x=wc.drew:=⟨_,rfl⟩
      rw [← hwD] at HDW HLT ⊢
      have hS:Chg [] wD wD:=Chg.refl _ _
      obtain ⟨e0,e1,e2,e3,e4,e5,e6⟩:=(HBX.out.kept (show Chg [] wc wD by rw [hwD]; exact (Chg.refl [] wc).drew) (by simp)).seven
      clear hwD
      repeat ((with_reducible refine gX ?_); (first | refine wpX_nil ?_ | refine sK ?_ | refine sM fun _ _=>?_ | refine sL fun _ _=>?_ | refine sE fun _ _=>?_); go_wp2_with fail)
      refine (Htv.out _ (HDW.out.then hS)).mono ?_; rintro _ w2 ⟨rfl,hw⟩; have hS2:=Chg.then hS hw; have hk:=Chg.cells hS2 HLT.out (by simp); clear hw
      go_wp2_with fail
      refine And.intro (by assumption:Chg _ _ _) ?_
      repeat ((with_reducible refine gX ?_); (first | refine wpX_nil ?_ | refine sK ?_ | refine sM fun _ _=>?_ | refine sL fun _ _=>?_ | refine sE fun _ _=>?_); go_wp2_with fail)
      refine (Htt.out _ (HDW.out.then hS2)).mono ?_; rintro _ w3 ⟨rfl,hw⟩; have hS3:=Chg.then hS2 hw; have hk3:=Chg.cells hS3 HLT.out (by simp)
      have HCw3:=Lib.hid (HDW.out.then hS3); clear hw
      go_wp2_with fail
      refine And.intro (by assumption:Chg _ _ _) ?_
      repeat ((with_reducible refine gX ?_); (first | refine wpX_nil ?_ | refine sK ?_ | refine sM fun _ _=>?_ | refine sL fun _ _=>?_ | refine sE fun _ _=>?_); go_wp2_with fail)
      go_wp2_with fail
      go_roundw
      case rel=>
       refine ⟨k + 1,r,l1 ++ (tab ++ [105,102,32] ++ text v ++ [32,116,104,101,110,10] ++ stmtsT t (tab ++ [32,32]) ++ tab ++ [101,110,100] ++ [59,10]),cs1 ++ [.int .i64 2,.int .i64 p,str [],nilp,.pointer y,.slice a1 t.len c1,.slice a2 e.len c2],_,?_,by go_num,by have:=HK2.out; omega,by rw [HCSE.out]; simp,by simp [HL1.out]; omega,HR.out,HCw3.out,?_,HAL2.out.2.2,HFW.out.2.2⟩
       ·rw [HO.out,HTB.out,Etv.out,Ett.out]
        show Value.string (bs l1 ++ (bs tab ++ bs [105,102,32] ++ bs (text v) ++ bs [32,116,104,101,110,10] ++ bs (stmtsT t (tab ++ [32,32]))) ++ (bs tab ++ bs [101,110,100]) ++ bs [59,10])=_
        simp only [← bs_append,str,List.append_assoc]
       ·rw [← HTX.out]
        simp [stmtsT,HEN.out]
      case measure=>simp [intOf] <;> omega
theorem rstmts_all : ∀ (s:S) (d:Nat),WFS d s→RStmtsOK s∧AllS RStmtsOK s
 | .nil,d,h=>⟨rstmts_ok .nil d h trivial,trivial⟩
 | .set _ _ _ _ r,d,h=>have q:AllS RStmtsOK (.set _ _ _ _ r):=(rstmts_all r d h.2.2.2).2; ⟨rstmts_ok _ d h q,q⟩
 | .ifs _ _ t e r,d,h=>have q:AllS RStmtsOK (.ifs _ _ t e r):=⟨(rstmts_all t (d - 1) h.2.1.1.2).1,(rstmts_all e (d - 1) h.2.1.2.2).1,(rstmts_all r d h.2.2).2⟩; ⟨rstmts_ok _ d h q,q⟩
 | .whil _ _ t r,d,h=>have q:AllS RStmtsOK (.whil _ _ t r):=⟨(rstmts_all t (d - 1) h.2.1.2).1,(rstmts_all r d h.2.2).2⟩; ⟨rstmts_ok _ d h q,q⟩
 | .ret _ _ r,d,h=>have q:AllS RStmtsOK (.ret _ _ r):=(rstmts_all r d h.2).2; ⟨rstmts_ok _ d h q,q⟩
 | .wri _ _ r,d,h=>have q:AllS RStmtsOK (.wri _ _ r):=(rstmts_all r d h.2).2; ⟨rstmts_ok _ d h q,q⟩
 | .call _ _ r,d,h=>have q:AllS RStmtsOK (.call _ _ r):=(rstmts_all r d h.2).2; ⟨rstmts_ok _ d h q,q⟩
end Go.Proofs.YtojkkgghndeimaaGreatDoor
