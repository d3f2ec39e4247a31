/- Some texts in one. -/
import Derived.Lib.AppendStr
import Derived.Shelf.Strings.BuilderK
import Derived.Test.YtojkkgghndeimaaGreatDoorR8
import Derived.Test.YtojkkgghndeimaaGreatDoorR14
import Derived.Test.YtojkkgghndeimaaGreatDoorR19
import Derived.Test.YtojkkgghndeimaaGreatDoorR20
namespace Go.Mq.Tree
open Go Go.RowKit Go.Mq
theorem grow_chg (w:World) (n:Nat) (os:Array Obj):Chg [] w (Go.Sort.grow (w.drewN n) os):=by
 refine ⟨rfl,rfl,rfl,by simp [Go.Sort.grow,World.drewN],fun k hk _=>?_⟩
 simp only [Go.Sort.grow,World.drewN]
 rw [Array.getElem?_append_left hk]
def E.list:E→List E
 | .cons x r=>x :: r.list
 | _=>[]
theorem text_list : ∀ l:E,l.isL→WF l→text l=Lib.join (l.list.map text) [44,32]
 | .nil,_,_=>rfl
 | .cons x .nil,_,_=>by simp only [text,E.list,List.map_cons,List.map_nil,Lib.join_one]
 | .cons x (.cons y r),_,h=>by
  have ih:=text_list (.cons y r) trivial h.2.1
  simp only [E.list,List.map_cons] at ih ⊢
  rw [join_more,← ih]
  simp only [text,List.append_assoc]
 | .cons x (.num ..),_,h=>by have:=h.2.2; exact this.elim
 | .cons x (.var ..),_,h=>by have:=h.2.2; exact this.elim
 | .cons x (.item ..),_,h=>by have:=h.2.2; exact this.elim
 | .cons x (.un ..),_,h=>by have:=h.2.2; exact this.elim
 | .cons x (.bin ..),_,h=>by have:=h.2.2; exact this.elim
 | .cons x (.app ..),_,h=>by have:=h.2.2; exact this.elim
theorem join_ge (s:List UInt8) (hs : 1≤s.length) : ∀ xs:List (List UInt8),xs.length≤(Lib.join xs s).length + 1 ∧ ∀ x∈xs,x.length≤(Lib.join xs s).length
 | []=>⟨by simp,fun x hx=>by cases hx⟩
 | [x]=>⟨by simp,fun y hy=>by simp at hy; subst hy; rw [Lib.join_one]; exact Nat.le_refl _⟩
 | x :: y :: r=>by
  have ih:=join_ge s hs (y :: r)
  have e:=congrArg List.length (join_more x y r s)
  simp only [List.length_append] at e
  refine ⟨by have:=ih.1; simp only [List.length_cons] at this ⊢; omega,fun z hz=>?_⟩
  simp only [List.mem_cons] at hz
  rcases hz with rfl | hz
  ·omega
  ·have:=ih.2 z (by simpa using hz); omega
theorem EAt.elems {w:World} {F:Nat→Prop} : ∀ (l:E) (vs:List Value),l.isL→WF l→EAt w F l vs→vs.length=l.list.length ∧ ∀ (i:Nat) (y:E),l.list[i]?=some y → ∃ u:Value,vs[i]?=some u∧EAt w F y [u]
 | .nil,vs,_,_,h=>by
  have : vs=[]:=h
  subst this
  exact ⟨rfl,fun i y hy=>by simp [E.list] at hy⟩
 | .cons x r,vs,_,hw,h=>by
  obtain ⟨u,us,rfl,h1,h2⟩:=h
  obtain ⟨i1,i2⟩:=EAt.elems r us hw.2.2 hw.2.1 h2
  refine ⟨by simp [E.list,i1],fun i y hy=>?_⟩
  cases i with
  | zero=>simp [E.list] at hy; subst hy; exact ⟨u,rfl,h1⟩
  | succ i=>simp [E.list] at hy; obtain ⟨v,h3,h4⟩:=i2 i y hy; exact ⟨v,by simpa using h3,h4⟩
theorem within_ge (lv:Nat) (x:E) (t:List UInt8) : t.length≤(within lv x t).length:=by
 rw [within]; split
 ·exact Nat.le_refl _
 ·simp; omega
theorem Row.cells_str {w:World} {F:Nat→Prop} {a:Option Addr} {l:List (List UInt8)} (h:Row w F a (l.map str)) (h0 : l≠[]) : ∃ b o,a=some ⟨b,o,none⟩∧F b∧b < w.heap.size ∧ ∀ (j:Nat) x,(l.map bs)[j]?=some x→w.cell? ⟨b,o + j,none⟩=some (.string x):=by
 have hl : 0 < (l.map str).length:=by cases l with | nil=>exact absurd rfl h0 | cons x r=>simp
 obtain ⟨b,o,rfl,hc⟩:=h.at_ hl
 have hc' : ∀ (j:Nat) x,(l.map bs)[j]?=some x→w.cell? ⟨b,o + j,none⟩=some (.string x):=fun j x hx=>by
  refine hc j _ ?_
  simp only [List.getElem?_map,Option.map_eq_some_iff] at hx ⊢
  obtain ⟨y,hy,rfl⟩:=hx
  exact ⟨y,hy,rfl⟩
 refine ⟨b,o,rfl,h.own hl _ rfl,?_,hc'⟩
 cases l with
 | nil=>exact absurd rfl h0
 | cons x r=>exact lt_of_cell (hc' 0 (bs x) rfl)
end Go.Mq.Tree
namespace Go.Proofs.YtojkkgghndeimaaGreatDoor
open Go Go.RowKit Go.Mq Go.Mq.Tree
set_option maxRecDepth 100000
set_option maxHeartbeats 4000000
theorem fmt_any (n:Int) (h0 : 0≤n) (h1 : n≤9223372036854775807) (w:World) (B:Nat) (hL:Laid w B):Calls Tryz.prog 123 #[.int .i64 n,.int .i64 10] w (fun e w'=>e = .returned (str (Lib.itoa n))∧Chg [] w w'):=by
 refine (Any.strconv_FormatInt_10 Tryz.lays173 n (by omega) h1 w hL.tab).mono ?_
 rintro e w' ⟨rfl,k,os,rfl⟩
 exact ⟨rfl,grow_chg _ _ _⟩
theorem itoa_any (n:Int) (h0 : 0≤n) (h1 : n≤9223372036854775807) (w:World) (B:Nat) (hL:Laid w B):Calls Tryz.prog 66 #[.int .i64 n] w (fun e w'=>e = .returned (str (Lib.itoa n))∧Chg [] w w'):=by
 refine (Any.strconv_Itoa Tryz.lays171 n (by omega) h1 w hL.tab).mono ?_
 rintro e w' ⟨rfl,k,os,rfl⟩
 exact ⟨rfl,grow_chg _ _ _⟩
theorem extra:Builder.Extra Tryz.prog Tryz.lays156_ren:={
 sizeBuilder:=by kernel_rfl
 liesBuilder:=by kernel_rfl
 t5:=Tryz.underlying5
 a5:=Tryz.isAgg5
 z5:=Tryz.sizeOf5
 v5:=Tryz.zeroValue5
 infoByte:=by kernel_rfl
 cellsByte:=by kernel_rfl
 sizeByte:=by kernel_rfl
 neB5:=by decide }
theorem join_any (l:List (List UInt8)) (s:List UInt8) (w:World) (F:Nat→Prop) (v:Value) (h:NamesAt w F l v) (hlen : (Lib.join l s).length≤1099511627776) (hn : l.length≤1099511627777) :
  Calls Tryz.prog 65 #[v,str s] w (fun e w'=>e = .returned (str (Lib.join l s))∧Chg [] w w'):=by
 obtain ⟨a,c,rfl,hc,hr⟩:=h
 by_cases h0 : l=[]
 ·subst h0
  refine (Any.strings_Join_none Tryz.lays156 extra a c (bs s) w).mono ?_
  rintro e w' ⟨rfl,rfl⟩
  exact ⟨rfl,Chg.refl _ _⟩
 ·obtain ⟨b,o,rfl,_,hlt,hcell⟩:=hr.cells_str h0
  have hm : (l.map bs).map (·.data.toList)=l:=by simp [Function.comp_def]
  have hml : (l.map bs).length=l.length:=by simp
  have:=Any.strings_Join Tryz.lays156 extra b o c (l.map bs) (bs s) w hcell hlt (by omega) (by omega) (by rw [hm]; simp; omega)
  rw [hm,hml] at this
  refine this.mono ?_
  rintro e w' ⟨rfl,hb⟩
  exact ⟨by simp,Chg.of_below hb⟩
theorem level_of (x:E) (hx : x.isX) (F:Nat→Prop) (u:Value) (w:World) (B:Nat) (hL:Laid w B) (h:EAt w F x [u]):Calls Tryz.prog 125 #[u] w (fun e w'=>e = .returned (.int .i64 (lvl x))∧w'=w):=by
 cases x with
 | num p n=>obtain ⟨b,hb,_,h1⟩:=h; cases hb; exact level_any b 1 (by decide) w (h1.cell 0 _ rfl)
 | var p m n=>obtain ⟨b,hb,_,h1⟩:=h; cases hb; exact level_any b 2 (by decide) w (h1.cell 0 _ rfl)
 | item p m n i=>obtain ⟨b,_,hb,_,h1,_⟩:=h; cases hb; exact level_any b 3 (by decide) w (h1.cell 0 _ rfl)
 | un p op x=>obtain ⟨b,_,hb,_,h1,_⟩:=h; cases hb; exact level_any b 4 (by decide) w (h1.cell 0 _ rfl)
 | bin p op x y=>obtain ⟨b,_,_,hb,_,h1,_⟩:=h; cases hb; exact level_bin b op w B (h1.cell 0 _ rfl) (h1.cell 5 _ rfl) hL
 | app p m n l=>obtain ⟨b,_,_,_,hb,_,h1,_⟩:=h; cases hb; exact level_any b 6 (by decide) w (h1.cell 0 _ rfl)
 | nil=>exact hx.elim
 | cons _ _=>exact hx.elim
end Go.Proofs.YtojkkgghndeimaaGreatDoor
namespace Go.Mq.Tree
open Go Go.RowKit Go.Mq
theorem bs_append (a b:List UInt8) : bs (a ++ b)=bs a ++ bs b:=by
 apply ByteArray.ext
 simp [bs]
theorem nm_len {n:List UInt8} (h:Nm n) : n.length≤1099511627776:=by have:=h.2.2; omega
theorem qm_len {n:List UInt8} (h:Qm n) : n.length≤1099511627776:=by
 rcases h with rfl | h
 ·simp
 ·exact nm_len h
theorem op_len : ∀ k < 5,∀ op∈levels.getD (4 - k) [],op.length≤10:=by decide
end Go.Mq.Tree
namespace Go.Proofs.YtojkkgghndeimaaGreatDoor
open Go Go.RowKit Go.Mq Go.Mq.Tree
set_option maxRecDepth 100000
set_option maxHeartbeats 1000000
def Said (f:FuncId) (args:Array Value) (w:World) (t:ByteArray):Prop:=Calls Tryz.prog f args w (fun e w'=>e = .returned (.string t)∧Chg [] w w')
def TextOK (x:E):Prop:=∀ (F:Nat→Prop) (u:Value) (w:World) (B:Nat),Laid w B→EAt w F x [u]→(text x).length≤1099511627776→Said 71 #[u] w (bs (text x))
theorem at_of (x:E) (hx : x.isX) (hT:TextOK x) (lv:Nat) (F:Nat→Prop) (u:Value) (w:World) (B:Nat) (hL:Laid w B) (h:EAt w F x [u]) (hlen : (text x).length≤1099511627776):Said 124 #[u,.int .i64 lv] w (bs (within lv x (text x))):=by
 have hs:=hT F u w B hL h hlen
 obtain ⟨t,ht⟩ : ∃ t:ByteArray,t=bs (text x):=⟨_,rfl⟩
 have hsz : t.size≤1099511627776:=by rw [ht]; exact hlen
 rw [← ht] at hs
 have HT:=Lib.hid hs
 have HV:=Lib.hid (level_of x hx F u w B hL h)
 have HR:=Lib.hid (show bs (within lv x (text x))=if lv≤lvl x then t else bs [40] ++ t ++ bs [41] by rw [within,ht,apply_ite bs,bs_append,bs_append])
 clear hs ht hL h hT hx hlen
 unfold Said
 rw [HR.out]
 by_cases hle : lv≤lvl x
 ·rw [if_pos hle]
  go_enter Tryz.func124,Tryz.ntmps124
  go_wp2_with fail
  refine HV.out.mono ?_; rintro _ _ ⟨rfl,rfl⟩
  go_wp2_with fail
  refine HT.out.mono ?_; rintro _ w2 ⟨rfl,hc⟩
  have HC:=Lib.hid hc; clear hc
  go_wp2_with fail
  go_ret
  exact ⟨rfl,HC.out⟩
 ·rw [if_neg hle]
  go_enter Tryz.func124,Tryz.ntmps124
  go_wp2_with fail
  refine HV.out.mono ?_; rintro _ _ ⟨rfl,rfl⟩
  go_wp2_with fail
  refine HT.out.mono ?_; rintro _ w2 ⟨rfl,hc⟩
  have HC:=Lib.hid hc; clear hc
  go_wp2_with fail
  go_ret
  exact ⟨rfl,HC.out⟩
theorem text_num_ok (p:Nat) (n:Int) (h0 : 0≤n) (h1 : n≤9223372036854775807):TextOK (.num p n):=by
 intro F u w B hL h _
 obtain ⟨b,hb,_,hbk⟩:=h
 cases hb
 have HF:=Lib.hid (fmt_any n h0 h1 w B hL)
 have c0:=hbk.cell 0 _ rfl; have c2:=hbk.cell 2 _ rfl; have c3:=hbk.cell 3 _ rfl; have c4:=hbk.cell 4 _ rfl
 clear hL hbk h0 h1
 go_enter Tryz.func71,Tryz.ntmps71
 go_wp2_with fail
 refine HF.out.mono ?_; rintro _ w2 ⟨rfl,hc⟩
 have HC:=Lib.hid hc; clear hc
 go_wp2_with fail
 go_ret
 exact ⟨rfl,HC.out⟩
theorem text_var_ok (p:Nat) (m n:List UInt8) (hm : m.length≤1099511627776) (hn : n.length≤1099511627776):TextOK (.var p m n):=by
 intro F u w B hL h hlen
 obtain ⟨b,hb,_,hbk⟩:=h
 cases hb
 have c0:=hbk.cell 0 _ rfl; have c2:=hbk.cell 2 _ rfl; have c3:=hbk.cell 3 _ rfl; have c4:=hbk.cell 4 _ rfl; have c5:=hbk.cell 5 _ rfl; have c6:=hbk.cell 6 _ rfl; have c7:=hbk.cell 7 _ rfl; have c8:=hbk.cell 8 _ rfl
 clear hL hbk hlen
 by_cases hm0 : m=[]
 ·subst hm0
  have HR:=Lib.hid (show bs (text (.var p [] n))=bs n by rfl)
  go_enter Tryz.func71,Tryz.ntmps71
  go_wp2_with fail
  have HW:=Lib.hid (Chg.refl [] w)
  have HC:=HW
  go_ret
  exact ⟨congrArg (fun t=>Ending.returned (Value.string t)) HR.out.symm,HC.out⟩
 ·have hmb : (m == [])=false:=by simpa using hm0
  have HR:=Lib.hid (show bs (text (.var p m n))=bs m ++ bs [46] ++ bs n by rw [text,qualT,if_neg hm0,bs_append,bs_append])
  clear hm0
  go_enter Tryz.func71,Tryz.ntmps71
  go_wp2_with fail
  refine wp_region_C [] rfl (by kernel_rfl) ?_
  have HZ:=Lib.hid (Zone.of (X:=[]) (w0:=w.drew) (off:=0) (b:=b) c0 (by simp))
  have hS:Chg [] w.drew w.drew:=Chg.refl _ _
  repeat ((with_reducible refine gX ?_); (first | refine wpX_nil ?_ | refine sK ?_ | refine sM fun _ _=>?_ | refine sL fun _ _=>?_ | refine sE fun _ _=>?_); go_wp2_with fail)
  have HW:=Lib.hid ((Chg.refl [] w).drew)
  clear hS
  have HC:=HW
  go_ret
  exact ⟨congrArg (fun t=>Ending.returned (Value.string t)) HR.out.symm,HC.out⟩
theorem text_item_ok (p:Nat) (m n:List UInt8) (i:E) (hm : m.length≤1099511627776) (hn : n.length≤1099511627776) (hT:TextOK i):TextOK (.item p m n i):=by
 intro F u w B hL h hlen
 obtain ⟨b,u1,hb,_,hbk,hx⟩:=h
 cases hb
 have c0:=hbk.cell 0 _ rfl; have c2:=hbk.cell 2 _ rfl; have c3:=hbk.cell 3 _ rfl; have c4:=hbk.cell 4 _ rfl; have c5:=hbk.cell 5 _ rfl; have c6:=hbk.cell 6 _ rfl; have c7:=hbk.cell 7 _ rfl; have c8:=hbk.cell 8 _ rfl
 have hlen' : (text i).length≤1099511627776:=by have:=hlen; simp only [text,List.length_append] at this; omega
 obtain ⟨t,ht⟩ : ∃ t:ByteArray,t=bs (text i):=⟨_,rfl⟩
 have hsz : t.size≤1099511627776:=by rw [ht]; exact hlen'
 have HT:=Lib.hid (show ∀ w',Chg [] w w'→Said 71 #[u1] w' t from fun w' hc=>by rw [ht]; exact hT F u1 w' B (hL.kept hc (by simp)) (hx.kept hc (by simp)) hlen')
 clear hL hbk hlen hlen' hT hx
 by_cases hm0 : m=[]
 ·subst hm0
  have HR:=Lib.hid (show bs (text (.item p [] n i))=bs n ++ bs [91] ++ t ++ bs [93] by rw [text,qualT,if_pos rfl,bs_append,bs_append,bs_append,ht])
  go_enter Tryz.func71,Tryz.ntmps71
  go_wp2_with fail
  have HW:=Lib.hid (Chg.refl [] w)
  clear ht
  refine (HT.out _ HW.out).mono ?_; rintro _ w2 ⟨rfl,hc⟩
  have HC:=Lib.hid (HW.out.then hc); clear hc
  go_wp2_with fail
  go_ret
  exact ⟨congrArg (fun t=>Ending.returned (Value.string t)) HR.out.symm,HC.out⟩
 ·have hmb : (m == [])=false:=by simpa using hm0
  have HR:=Lib.hid (show bs (text (.item p m n i))=bs m ++ bs [46] ++ bs n ++ bs [91] ++ t ++ bs [93] by rw [text,qualT,if_neg hm0,bs_append,bs_append,bs_append,bs_append,bs_append,ht])
  clear hm0
  go_enter Tryz.func71,Tryz.ntmps71
  go_wp2_with fail
  refine wp_region_C [] rfl (by kernel_rfl) ?_
  have HZ:=Lib.hid (Zone.of (X:=[]) (w0:=w.drew) (off:=0) (b:=b) c0 (by simp))
  have hS:Chg [] w.drew w.drew:=Chg.refl _ _
  repeat ((with_reducible refine gX ?_); (first | refine wpX_nil ?_ | refine sK ?_ | refine sM fun _ _=>?_ | refine sL fun _ _=>?_ | refine sE fun _ _=>?_); go_wp2_with fail)
  have HW:=Lib.hid ((Chg.refl [] w).drew)
  clear hS
  clear ht
  refine (HT.out _ HW.out).mono ?_; rintro _ w2 ⟨rfl,hc⟩
  have HC:=Lib.hid (HW.out.then hc); clear hc
  go_wp2_with fail
  go_ret
  exact ⟨congrArg (fun t=>Ending.returned (Value.string t)) HR.out.symm,HC.out⟩
theorem text_minus_ok (p:Nat) (x:E) (hX : x.isX) (hT:TextOK x):TextOK (.un p [45] x):=by
 intro F u w B hL h hlen
 obtain ⟨b,u1,hb,_,hbk,hx⟩:=h
 cases hb
 have c0:=hbk.cell 0 _ rfl; have c2:=hbk.cell 2 _ rfl; have c3:=hbk.cell 3 _ rfl; have c4:=hbk.cell 4 _ rfl; have c5:=hbk.cell 5 _ rfl; have c6:=hbk.cell 6 _ rfl; have c7:=hbk.cell 7 _ rfl; have c8:=hbk.cell 8 _ rfl
 have hlen' : (text x).length≤1099511627776:=by have h2:=hlen; have h3:=within_ge 5 x (text x); simp only [text,List.length_append] at h2; omega
 have hlen2 : (within 5 x (text x)).length≤1099511627776:=by have h2:=hlen; simp only [text,List.length_append] at h2; omega
 obtain ⟨t,ht⟩ : ∃ t:ByteArray,t=bs (within 5 x (text x)):=⟨_,rfl⟩
 have hsz : t.size≤1099511627776:=by rw [ht]; exact hlen2
 have HT:=Lib.hid (show ∀ w',Chg [] w w'→Said 124 #[u1,.int .i64 5] w' t from fun w' hc=>by rw [ht]; exact at_of x hX hT 5 F u1 w' B (hL.kept hc (by simp)) (hx.kept hc (by simp)) hlen')
 have HR:=Lib.hid (show bs (text (.un p [45] x))=bs [45] ++ t by rw [ht,text,← bs_append]; rfl)
 clear hL hbk hlen hlen' hlen2 hT hx ht hX
 go_enter Tryz.func71,Tryz.ntmps71
 go_wp2_with fail
 refine (HT.out _ (Chg.refl _ _)).mono ?_; rintro _ w2 ⟨rfl,hc⟩
 have HC:=Lib.hid hc; clear hc
 go_wp2_with fail
 go_ret
 exact ⟨congrArg (fun t=>Ending.returned (Value.string t)) HR.out.symm,HC.out⟩
theorem text_not_ok (p:Nat) (x:E) (hX : x.isX) (hT:TextOK x):TextOK (.un p [110,111,116] x):=by
 intro F u w B hL h hlen
 obtain ⟨b,u1,hb,_,hbk,hx⟩:=h
 cases hb
 have c0:=hbk.cell 0 _ rfl; have c2:=hbk.cell 2 _ rfl; have c3:=hbk.cell 3 _ rfl; have c4:=hbk.cell 4 _ rfl; have c5:=hbk.cell 5 _ rfl; have c6:=hbk.cell 6 _ rfl; have c7:=hbk.cell 7 _ rfl; have c8:=hbk.cell 8 _ rfl
 have hlen' : (text x).length≤1099511627776:=by have h2:=hlen; have h3:=within_ge 5 x (text x); simp only [text,List.length_append] at h2; omega
 have hlen2 : (within 5 x (text x)).length≤1099511627776:=by have h2:=hlen; simp only [text,List.length_append] at h2; omega
 obtain ⟨t,ht⟩ : ∃ t:ByteArray,t=bs (within 5 x (text x)):=⟨_,rfl⟩
 have hsz : t.size≤1099511627776:=by rw [ht]; exact hlen2
 have HT:=Lib.hid (show ∀ w',Chg [] w w'→Said 124 #[u1,.int .i64 5] w' t from fun w' hc=>by rw [ht]; exact at_of x hX hT 5 F u1 w' B (hL.kept hc (by simp)) (hx.kept hc (by simp)) hlen')
 have HR:=Lib.hid (show bs (text (.un p [110,111,116] x))=bs [110,111,116,32] ++ t by rw [ht,text,← bs_append]; rfl)
 clear hL hbk hlen hlen' hlen2 hT hx ht hX
 go_enter Tryz.func71,Tryz.ntmps71
 go_wp2_with fail
 refine (HT.out _ (Chg.refl _ _)).mono ?_; rintro _ w2 ⟨rfl,hc⟩
 have HC:=Lib.hid hc; clear hc
 go_wp2_with fail
 go_ret
 exact ⟨congrArg (fun t=>Ending.returned (Value.string t)) HR.out.symm,HC.out⟩
theorem text_bin_ok (p:Nat) (op:List UInt8) (x y:E) (hop : op.length≤10) (hol : opLevel op < 5) (hX : x.isX) (hY : y.isX) (hT1:TextOK x) (hT2:TextOK y):TextOK (.bin p op x y):=by
 intro F u w B hL h hlen
 have HV:=Lib.hid (level_of (.bin p op x y) trivial F u w B hL h)
 obtain ⟨b,u1,u2,hb,_,hbk,hx1,hx2⟩:=h
 cases hb
 have c0:=hbk.cell 0 _ rfl; have c2:=hbk.cell 2 _ rfl; have c3:=hbk.cell 3 _ rfl; have c4:=hbk.cell 4 _ rfl; have c5:=hbk.cell 5 _ rfl; have c6:=hbk.cell 6 _ rfl; have c7:=hbk.cell 7 _ rfl; have c8:=hbk.cell 8 _ rfl
 have h2:=hlen
 simp only [text,List.length_append] at h2
 have hl1 : (text x).length≤1099511627776:=by have h3:=within_ge (opLevel op) x (text x); omega
 have hl2 : (text y).length≤1099511627776:=by have h3:=within_ge (opLevel op + 1) y (text y); omega
 obtain ⟨t1,ht1⟩ : ∃ t:ByteArray,t=bs (within (opLevel op) x (text x)):=⟨_,rfl⟩
 obtain ⟨t2,ht2⟩ : ∃ t:ByteArray,t=bs (within (opLevel op + 1) y (text y)):=⟨_,rfl⟩
 obtain ⟨tq,hto⟩ : ∃ t:ByteArray,t=bs op:=⟨_,rfl⟩
 have hz1 : t1.size≤1099511627776:=by rw [ht1,bs_size]; omega
 have hz2 : t2.size≤1099511627776:=by rw [ht2,bs_size]; omega
 have hz3 : tq.size≤10:=by rw [hto]; exact hop
 have HT1:=Lib.hid (show ∀ w',Chg [] w w'→Said 124 #[u1,.int .i64 (opLevel op)] w' t1 from fun w' hc=>by rw [ht1]; exact at_of x hX hT1 _ F u1 w' B (hL.kept hc (by simp)) (hx1.kept hc (by simp)) hl1)
 have HT2:=Lib.hid (show ∀ w',Chg [] w w'→Said 124 #[u2,.int .i64 ((opLevel op:Int) + 1)] w' t2 from fun w' hc=>by rw [ht2]; exact at_of y hY hT2 (opLevel op + 1) F u2 w' B (hL.kept hc (by simp)) (hx2.kept hc (by simp)) hl2)
 have HR:=Lib.hid (show bs (text (.bin p op x y))=t1 ++ bs [32] ++ tq ++ bs [32] ++ t2 by rw [ht1,ht2,hto,text,bs_append,bs_append,bs_append,bs_append])
 simp only [lvl] at HV
 have c5' : w.cell? ⟨b,5,none⟩=some (.string tq):=by rw [hto]; exact c5
 obtain ⟨lv,hlv⟩ : ∃ lv,lv=opLevel op:=⟨_,rfl⟩
 rw [← hlv] at HT1 HT2 HV hol
 clear hL hbk hlen hT1 hT2 hx1 hx2 ht1 ht2 hX hY hto hop h2 hl1 hl2 hlv c5
 have HLT:=Lib.hid (show b < w.drew.heap.size from lt_of_cell c0)
 have HZ:=Lib.hid (Zone.of (X:=[]) (w0:=w.drew) (off:=0) (b:=b) c0 (by simp))
 go_enter Tryz.func71,Tryz.ntmps71
 go_wp2_with fail
 refine HV.out.mono ?_; rintro _ w1 ⟨rfl,hw⟩; have hw:=hw.symm; subst hw
 go_wp2_with fail
 refine wp_region_C [] rfl (by kernel_rfl) ?_
 have hS:Chg [] w.drew w.drew:=Chg.refl _ _
 repeat ((with_reducible refine gX ?_); (first | refine wpX_nil ?_ | refine sK ?_ | refine sM fun _ _=>?_ | refine sL fun _ _=>?_ | refine sE fun _ _=>?_); go_wp2_with fail)
 refine (HT1.out _ ((Chg.drew (Chg.refl [] w)).then hS)).mono ?_; rintro _ _ ⟨rfl,hw⟩; have hS:=Chg.then (by assumption) hw; have hk:=Chg.cells hS HLT.out (by simp); clear hw
 go_wp2_with fail
 refine And.intro (by assumption:Chg _ _ _) ?_
 repeat ((with_reducible refine gX ?_); (first | refine wpX_nil ?_ | refine sK ?_ | refine sM fun _ _=>?_ | refine sL fun _ _=>?_ | refine sE fun _ _=>?_); go_wp2_with fail)
 refine (HT2.out _ ((Chg.drew (Chg.refl [] w)).then (by assumption))).mono ?_; rintro _ _ ⟨rfl,hw⟩; have hS:=Chg.then (by assumption) hw; have hk:=Chg.cells hS HLT.out (by simp); clear hw
 go_wp2_with fail
 refine And.intro (by assumption:Chg _ _ _) ?_
 repeat ((with_reducible refine gX ?_); (first | refine wpX_nil ?_ | refine sK ?_ | refine sM fun _ _=>?_ | refine sL fun _ _=>?_ | refine sE fun _ _=>?_); go_wp2_with fail)
 have HC:=Lib.hid ((Chg.drew (Chg.refl [] w)).then (by assumption))
 go_ret
 exact ⟨congrArg (fun t=>Ending.returned (Value.string t)) HR.out.symm,HC.out⟩
theorem text_app_ok (p:Nat) (m n:List UInt8) (l:E) (hm : m.length≤1099511627776) (hn : n.length≤1099511627776) (hl : l.isL) (hw:WF l) (hT : ∀ y∈l.list,TextOK y):TextOK (.app p m n l):=by
 intro F u w B hL h hlen
 obtain ⟨b,a,c,vs,hb,_,hbk,hvc,hrow,hx⟩:=h
 cases hb
 have c0:=hbk.cell 0 _ rfl; have c2:=hbk.cell 2 _ rfl; have c3:=hbk.cell 3 _ rfl; have c4:=hbk.cell 4 _ rfl; have c5:=hbk.cell 5 _ rfl; have c6:=hbk.cell 6 _ rfl; have c7:=hbk.cell 7 _ rfl; have c8:=hbk.cell 8 _ rfl
 obtain ⟨hvl,hel⟩:=EAt.elems l vs hl hw hx
 have htl:=text_list l hl hw
 obtain ⟨J,hJ⟩ : ∃ J,J=Lib.join (l.list.map text) [44,32]:=⟨_,rfl⟩
 have hjl:J.length≤1099511627776:=by have h2:=hlen; simp only [text,List.length_append] at h2; rw [htl,← hJ] at h2; omega
 have hjg:=join_ge [44,32] (by decide) (l.list.map text)
 rw [← hJ] at hjg
 have hvn : vs.length≤1099511627777:=by have:=hjg.1; simp at this; omega
 have HEL:=Lib.hid (show ∀ (k:Nat) (y:E),l.list[k]?=some y → ∃ b' o u,a=some ⟨b',o,none⟩∧w.cell? ⟨b',o + k,none⟩=some u∧(text y).length≤1099511627776 ∧ ∀ w',Chg [] w w'→Said 71 #[u] w' (bs (text y)) from fun k y hy=>by
  obtain ⟨u,hu,hxu⟩:=hel k y hy
  obtain ⟨b',o,rfl,hcell⟩:=hrow.at_ (by have:=(List.getElem?_eq_some_iff.1 hu).1; omega)
  have hyl : (text y).length≤1099511627776:=Nat.le_trans (hjg.2 _ (List.mem_map_of_mem (List.mem_of_getElem? hy))) hjl
  exact ⟨b',o,u,rfl,hcell k u hu,hyl,fun w' hc=>hT y (List.mem_of_getElem? hy) F u w' B (hL.kept hc (by simp)) (hxu.kept hc (by simp)) hyl⟩)
 have hlt' : text l=J:=by rw [htl,hJ]
 have HJ:=Lib.hid (show ∀ (v:Value) (w':World),Chg [] w w'→NamesAt w' (fun _=>True) (l.list.map text) v→Said 65 #[v,.string ⟨#[44,32]⟩] w' (bs J) from fun v w' _ hv=>by
  have:=join_any (l.list.map text) [44,32] w' (fun _=>True) v hv (by rw [← hJ]; exact hjl) (by have:=hvn; rw [hvl] at this; simpa using this)
  rw [← hJ] at this
  exact this)
 obtain ⟨t,ht⟩ : ∃ t:ByteArray,t=bs J:=⟨_,rfl⟩
 have hsz : t.size≤1099511627776:=by rw [ht]; exact hjl
 rw [← ht] at HJ
 clear hL hbk hlen hT hx hrow hel hjg hJ hl hw htl hvc c2 c5 c6 c7
 by_cases hm0 : m=[]
 ·subst hm0
  have HR:=Lib.hid (show bs (text (.app p [] n l))=bs n ++ bs [40] ++ t ++ bs [41] by rw [text,qualT,if_pos rfl,bs_append,bs_append,bs_append,hlt',ht])
  go_enter Tryz.func71,Tryz.ntmps71
  go_wp2_with fail
  have HW:=Lib.hid (Chg.refl [] w)
  clear ht hlt'
  go_loopw [5,7,100] (fun v _ i wr=>∃ k:Nat,k≤vs.length∧i = .int .i64 k∧Chg [] w wr∧wr.ownsRow 0 9 1 v k ((l.list.take k).map fun y=>str (text y))∧From w.heap.size v) (fun _ _ i _=>vs.length - (intOf i).toNat)
  case atStart=>exact ⟨0,Nat.zero_le _,rfl,HW.out,World.ownsRow_nil _ _ _ _,From.nil _⟩
  case round=>
   obtain ⟨k,hk,rfl,hc,ho,hf⟩:=hrel
   have HC:=Lib.hid hc; have HO:=Lib.hid ho; have HF:=Lib.hid hf
   clear hc ho hf
   by_cases hlt : k < vs.length
   ·obtain ⟨y,hy⟩ : ∃ y,l.list[k]?=some y:=⟨l.list[k]'(by omega),List.getElem?_eq_getElem (by omega)⟩
    obtain ⟨b',o,u,rfl,hcell,hyl,hsaid⟩:=HEL.out k y hy
    have hcell':=HC.out.cellSome hcell (by simp)
    have HS:=Lib.hid (hsaid wr HC.out)
    have HY:=Lib.hid hy
    obtain ⟨ty,hty⟩ : ∃ ty:ByteArray,ty=bs (text y):=⟨_,rfl⟩
    rw [← hty] at HS
    have HTY:=Lib.hid hty
    clear hcell hsaid hy hty hyl
    go_wp2_with fail
    refine HS.out.mono ?_; rintro _ w2 ⟨rfl,hc2⟩
    have HC2:=Lib.hid hc2
    have HO2:=Lib.hid (owns_kept HO.out (hc2.alloc (.cells #[.string ty] 9)) (fun g hg hm=>by simp at hm))
    have hsz2:=HC.out.size
    have hsz3:=hc2.size
    clear hc2
    go_wp2_with (at_builtin; go_must (refine wpL_append rfl _ _ 25 rfl 9 _ 1 16 infoStr Tryz.underlying25 rfl (by decide) _ _ _ rfl HO2.out ⟨w2.heap.size,0,none⟩ 1 1 [_] rfl rfl (cell_new1 _ _ _) (by simp [Value.oneCell']) ?_ ?_ ?_))
    ·omega
    ·unfold maxLen; omega
    ·intro v' w' hown' hch' hmv'
     have HO3:=Lib.hid hown'
     have hf3:=HF.out.moved hmv' (by simp; omega)
     have HF3:=Lib.hid hf3
     have HC3:=Lib.hid (((HC.out.then HC2.out).alloc (.cells #[.string ty] 9)).trans hch' (fun x hx=>.inr (HF.out x hx)))
     clear hown' hch' hmv' hf3
     go_wp2_with fail
     refine ⟨⟨k + 1,by omega,by go_num,HC3.out,?_,HF3.out⟩,by simp [intOf]; omega⟩
     have e : ((l.list.take (k + 1)).map fun y=>str (text y))=((l.list.take k).map fun y=>str (text y)) ++ [.string ty]:=by
      have:=List.take_add_one (l:=l.list) (i:=k)
      rw [this,HY.out,HTY.out]
      simp
     rw [e,List.map_take]
     exact HO3.out
   ·have hke : k=vs.length:=by omega
    have hfull : ((l.list.take k).map fun y=>str (text y))=(l.list.map text).map str:=by rw [hke,hvl,List.take_length]; simp
    have hna:NamesAt wr (fun _=>True) (l.list.map text) u5:=by
     have ho:=HO.out
     rw [hfull] at ho
     obtain ⟨a',c',he,hc',hrow⟩:=Row.of_owns ho (F:=fun _=>True) (fun _ _=>trivial)
     exact ⟨a',c',by rw [he,hke,hvl]; simp,by rw [hke,hvl] at hc'; simpa using hc',hrow⟩
    have HJ2:=Lib.hid (HJ.out u5 wr HC.out hna)
    clear hna hfull
    go_wp2_with fail
    refine HJ2.out.mono ?_; rintro _ w2 ⟨rfl,hc2⟩
    have HC2:=Lib.hid (HC.out.then hc2); clear hc2
    go_wp2_with fail
    go_ret
    exact ⟨congrArg (fun t=>Ending.returned (Value.string t)) HR.out.symm,HC2.out⟩
 ·have hmb : (m == [])=false:=by simpa using hm0
  have HR:=Lib.hid (show bs (text (.app p m n l))=bs m ++ bs [46] ++ bs n ++ bs [40] ++ t ++ bs [41] by rw [text,qualT,if_neg hm0,bs_append,bs_append,bs_append,bs_append,bs_append,hlt',ht])
  clear hm0
  go_enter Tryz.func71,Tryz.ntmps71
  go_wp2_with fail
  refine wp_region_C [] rfl (by kernel_rfl) ?_
  have HZ:=Lib.hid (Zone.of (X:=[]) (w0:=w.drew) (off:=0) (b:=b) c0 (by simp))
  have hS:Chg [] w.drew w.drew:=Chg.refl _ _
  repeat ((with_reducible refine gX ?_); (first | refine wpX_nil ?_ | refine sK ?_ | refine sM fun _ _=>?_ | refine sL fun _ _=>?_ | refine sE fun _ _=>?_); go_wp2_with fail)
  have HW:=Lib.hid ((Chg.refl [] w).drew)
  clear hS
  clear ht hlt'
  go_loopw [5,7,100] (fun v _ i wr=>∃ k:Nat,k≤vs.length∧i = .int .i64 k∧Chg [] w wr∧wr.ownsRow 0 9 1 v k ((l.list.take k).map fun y=>str (text y))∧From w.heap.size v) (fun _ _ i _=>vs.length - (intOf i).toNat)
  case atStart=>exact ⟨0,Nat.zero_le _,rfl,HW.out,World.ownsRow_nil _ _ _ _,From.nil _⟩
  case round=>
   obtain ⟨k,hk,rfl,hc,ho,hf⟩:=hrel
   have HC:=Lib.hid hc; have HO:=Lib.hid ho; have HF:=Lib.hid hf
   clear hc ho hf
   by_cases hlt : k < vs.length
   ·obtain ⟨y,hy⟩ : ∃ y,l.list[k]?=some y:=⟨l.list[k]'(by omega),List.getElem?_eq_getElem (by omega)⟩
    obtain ⟨b',o,u,rfl,hcell,hyl,hsaid⟩:=HEL.out k y hy
    have hcell':=HC.out.cellSome hcell (by simp)
    have HS:=Lib.hid (hsaid wr HC.out)
    have HY:=Lib.hid hy
    obtain ⟨ty,hty⟩ : ∃ ty:ByteArray,ty=bs (text y):=⟨_,rfl⟩
    rw [← hty] at HS
    have HTY:=Lib.hid hty
    clear hcell hsaid hy hty hyl
    go_wp2_with fail
    refine HS.out.mono ?_; rintro _ w2 ⟨rfl,hc2⟩
    have HC2:=Lib.hid hc2
    have HO2:=Lib.hid (owns_kept HO.out (hc2.alloc (.cells #[.string ty] 9)) (fun g hg hm=>by simp at hm))
    have hsz2:=HC.out.size
    have hsz3:=hc2.size
    clear hc2
    go_wp2_with (at_builtin; go_must (refine wpL_append rfl _ _ 25 rfl 9 _ 1 16 infoStr Tryz.underlying25 rfl (by decide) _ _ _ rfl HO2.out ⟨w2.heap.size,0,none⟩ 1 1 [_] rfl rfl (cell_new1 _ _ _) (by simp [Value.oneCell']) ?_ ?_ ?_))
    ·omega
    ·unfold maxLen; omega
    ·intro v' w' hown' hch' hmv'
     have HO3:=Lib.hid hown'
     have hf3:=HF.out.moved hmv' (by simp; omega)
     have HF3:=Lib.hid hf3
     have HC3:=Lib.hid (((HC.out.then HC2.out).alloc (.cells #[.string ty] 9)).trans hch' (fun x hx=>.inr (HF.out x hx)))
     clear hown' hch' hmv' hf3
     go_wp2_with fail
     refine ⟨⟨k + 1,by omega,by go_num,HC3.out,?_,HF3.out⟩,by simp [intOf]; omega⟩
     have e : ((l.list.take (k + 1)).map fun y=>str (text y))=((l.list.take k).map fun y=>str (text y)) ++ [.string ty]:=by
      have:=List.take_add_one (l:=l.list) (i:=k)
      rw [this,HY.out,HTY.out]
      simp
     rw [e,List.map_take]
     exact HO3.out
   ·have hke : k=vs.length:=by omega
    have hfull : ((l.list.take k).map fun y=>str (text y))=(l.list.map text).map str:=by rw [hke,hvl,List.take_length]; simp
    have hna:NamesAt wr (fun _=>True) (l.list.map text) u5:=by
     have ho:=HO.out
     rw [hfull] at ho
     obtain ⟨a',c',he,hc',hrow⟩:=Row.of_owns ho (F:=fun _=>True) (fun _ _=>trivial)
     exact ⟨a',c',by rw [he,hke,hvl]; simp,by rw [hke,hvl] at hc'; simpa using hc',hrow⟩
    have HJ2:=Lib.hid (HJ.out u5 wr HC.out hna)
    clear hna hfull
    go_wp2_with fail
    refine HJ2.out.mono ?_; rintro _ w2 ⟨rfl,hc2⟩
    have HC2:=Lib.hid (HC.out.then hc2); clear hc2
    go_wp2_with fail
    go_ret
    exact ⟨congrArg (fun t=>Ending.returned (Value.string t)) HR.out.symm,HC2.out⟩
theorem text_all : ∀ x:E,WF x→(x.isX→TextOK x)∧(x.isL → ∀ y∈x.list,TextOK y)
 | .num p n,h=>⟨fun _=>text_num_ok p n h.1 h.2,fun h=>h.elim⟩
 | .var p m n,h=>⟨fun _=>text_var_ok p m n (qm_len h.1) (nm_len h.2),fun h=>h.elim⟩
 | .item p m n i,h=>⟨fun _=>text_item_ok p m n i (qm_len h.1) (nm_len h.2.1) ((text_all i h.2.2.1).1 h.2.2.2),fun h=>h.elim⟩
 | .un p op x,h=>⟨fun _=>by
   rcases h.1 with rfl | rfl
   ·exact text_minus_ok p x h.2.2 ((text_all x h.2.1).1 h.2.2)
   ·exact text_not_ok p x h.2.2 ((text_all x h.2.1).1 h.2.2),fun h=>h.elim⟩
 | .bin p op x y,h=>⟨fun _=>by
   obtain ⟨k,hk,hop⟩:=h.1
   have h5:=op_level k hk op hop
   exact text_bin_ok p op x y (op_len k hk op hop) (by omega) h.2.1.2 h.2.2.2 ((text_all x h.2.1.1).1 h.2.1.2) ((text_all y h.2.2.1).1 h.2.2.2),fun h=>h.elim⟩
 | .app p m n l,h=>⟨fun _=>text_app_ok p m n l (qm_len h.1) (nm_len h.2.1) h.2.2.2 h.2.2.1 ((text_all l h.2.2.1).2 h.2.2.2),fun h=>h.elim⟩
 | .nil,_=>⟨fun h=>h.elim,fun _ y hy=>by cases hy⟩
 | .cons x r,h=>⟨fun h=>h.elim,fun _ y hy=>by
   have h1:=(text_all x h.1.1).1 h.1.2
   have h2:=(text_all r h.2.1).2 h.2.2
   simp only [E.list,List.mem_cons] at hy
   rcases hy with rfl | hy
   ·exact h1
   ·exact h2 y hy⟩
end Go.Proofs.YtojkkgghndeimaaGreatDoor
namespace Go.Mq.Tree
open Go Go.RowKit Go.Mq
abbrev Bd (B0 b:Nat) (l:List UInt8) (w:World):Prop:=Lib.IsBuilderF 127 5 B0 b (Lib.byteCells l) w
structure Wr (B0 b:Nat) (l:List UInt8) (w w':World):Prop where
 bd:Bd B0 b l w'
 below:Below B0 w w'
 others:Lib.OthersKept 5 (some b) w w'
theorem Chg.others {w w':World} {e:TypeId} {b:Option Nat} (h:Chg [] w w'):Lib.OthersKept e b w w':=fun k o hk _ _=>by
 rw [h.block k (Array.getElem?_eq_some_iff.1 hk).1 (by simp)]
 exact hk
theorem Bd.kept {B0 b:Nat} {l:List UInt8} {w w':World} (h:Bd B0 b l w) (hc:Chg [] w w'):Bd B0 b l w':=by
 have hg : w.grownBy w' none:=⟨hc.os,hc.tape,hc.output,hc.size,fun k hk _=>hc.block k hk (by simp)⟩
 have key : ∀ p,Lib.BuilderAtF 127 5 B0 b p (Lib.byteCells l) w→Lib.BuilderAtF 127 5 B0 b p (Lib.byteCells l) w':=by
  rintro p ⟨hB,v,hb,hown,hne⟩
  refine ⟨hB,v,?_,hown.kept hg ?_,hne⟩
  ·rw [hc.block b (Array.getElem?_eq_some_iff.1 hb).1 (by simp)]; exact hb
  ·cases h : v.ownBlock with
   | none=>exact .inl rfl
   | some k=>exact .inr (by simp)
 rcases h with h | h
 ·exact .inl (key _ h)
 ·exact .inr (key _ h)
theorem Bd.lt {B0 b:Nat} {l:List UInt8} {w:World} (h:Bd B0 b l w) : b < w.heap.size:=by
 rcases h with h | h <;> exact Lib.BuilderAtF.lt h
theorem Bd.le {B0 b:Nat} {l:List UInt8} {w:World} (h:Bd B0 b l w):B0≤b:=by
 rcases h with h | h <;> exact h.1
section
variable {B0 b:Nat} {l l':List UInt8} {w w1 w2:World}
theorem Wr.refl (h:Bd B0 b l w):Wr B0 b l w w:=⟨h,Below.refl _ _,Lib.OthersKept.refl _ _ _⟩
theorem Wr.trans (h:Wr B0 b l w w1) (k:Wr B0 b l' w1 w2):Wr B0 b l' w w2:=⟨k.bd,h.below.trans k.below,h.others.trans k.others⟩
theorem Wr.chg (h:Wr B0 b l w w1) (hB:B0≤w1.heap.size) (hc:Chg [] w1 w2):Wr B0 b l w w2:=⟨h.bd.kept hc,h.below.trans (hc.below hB (by simp)),h.others.trans (Chg.others hc)⟩
theorem Wr.size (h:Wr B0 b l w w1) : w.heap.size≤w1.heap.size:=h.below.size
theorem Wr.blk {nb:Nat} {cs:Array Value} {t:TypeId} (h:Wr B0 b l w w1) (hb:Blk w nb cs t) (ht : t≠5) (hn : nb≠b):Blk w1 nb cs t:=
 h.others nb _ hb (by simpa using hn) (fun c fz he=>by cases he; exact ht rfl)
theorem below_chg (h:Below B0 w w1):Chg (List.range' B0 (w.heap.size - B0)) w w1:=⟨h.os,h.tape,h.output,h.size,fun k hk hn=>by
 refine h.block k ?_
 rcases Nat.lt_or_ge k B0 with h1 | h1
 ·exact h1
 ·exact absurd (by rw [List.mem_range'_1]; omega) hn⟩
theorem in_range {x n:Nat} (h : x∈List.range' B0 n):B0≤x:=by rw [List.mem_range'_1] at h; exact h.1
theorem Wr.laid {B:Nat} (h:Wr B0 b l w w1) (hL:Laid w B) (hB:B≤B0):Laid w1 B:=hL.kept (below_chg h.below) fun _ hx=>Nat.le_trans hB (in_range hx)
theorem Wr.eat {F:Nat→Prop} {x:E} {us:List Value} (h:Wr B0 b l w w1) (hF : ∀ x,F x→x < B0) (hx:EAt w F x us):EAt w1 F x us:=hx.kept (below_chg h.below) fun y hy hn=>by have:=in_range hy; have:=hF y hn; omega
theorem Wr.sl {F:Nat→Prop} {x:S} {v:Value} (h:Wr B0 b l w w1) (hF : ∀ x,F x→x < B0) (hx:SlAt w F x v):SlAt w1 F x v:=hx.kept (below_chg h.below) fun y hy hn=>by have:=in_range hy; have:=hF y hn; omega
theorem Wr.names {F:Nat→Prop} {x:List (List UInt8)} {v:Value} (h:Wr B0 b l w w1) (hF : ∀ x,F x→x < B0) (hx:NamesAt w F x v):NamesAt w1 F x v:=hx.kept (below_chg h.below) fun y hy hn=>by have:=in_range hy; have:=hF y hn; omega
theorem Wr.row {F:Nat→Prop} {a:Option Addr} {cs:List Value} (h:Wr B0 b l w w1) (hF : ∀ x,F x→x < B0) (hx:Row w F a cs):Row w1 F a cs:=hx.kept (below_chg h.below) fun y hy hn=>by have:=in_range hy; have:=hF y hn; omega
end
def AllS (P:S→Prop):S→Prop
 | .nil=>True
 | .set _ _ _ _ r=>AllS P r
 | .ifs _ _ t e r=>P t∧P e∧AllS P r
 | .whil _ _ t r=>P t∧AllS P r
 | .ret _ _ r=>AllS P r
 | .wri _ _ r=>AllS P r
 | .call _ _ r=>AllS P r
theorem set7P {w:World} {b:Nat} (v0 v1 v2 v3 v4 v5 v6:Value) {u0 u1 u2 u3 u4 u5 u6:Value} {t:TypeId} (h:Blk w b #[u0,u1,u2,u3,u4,u5,u6] t) : ∃ wF,(((((((w.setCell ⟨b,0,none⟩ v0).setCell ⟨b,1,none⟩ v1).setCell ⟨b,2,none⟩ v2).setCell ⟨b,3,none⟩ v3).setCell ⟨b,4,none⟩ v4).setCell ⟨b,5,none⟩ v5).setCell ⟨b,6,none⟩ v6)=wF∧Chg [b] w wF∧Blk wF b #[v0,v1,v2,v3,v4,v5,v6] t:=
 ⟨_,rfl,((((((Chg.set1 _ _ _ _).then (Chg.set1 _ _ _ _)).then (Chg.set1 _ _ _ _)).then (Chg.set1 _ _ _ _)).then (Chg.set1 _ _ _ _)).then (Chg.set1 _ _ _ _)).then (Chg.set1 _ _ _ _),by
  have:=((((((h.set 0 v0).set 1 v1).set 2 v2).set 3 v3).set 4 v4).set 5 v5).set 6 v6
  simpa using this⟩
end Go.Mq.Tree
namespace Go.Proofs.YtojkkgghndeimaaGreatDoor
open Go Go.RowKit Go.Mq Go.Mq.Tree
set_option maxRecDepth 100000
set_option maxHeartbeats 1000000
theorem write_any {B0 b:Nat} {l:List UInt8} (s:ByteArray) (X:List UInt8) (hs : s=bs X) {w:World} (h:Bd B0 b l w) (hB:B0≤w.heap.size) (hlen : (l ++ X).length≤1099511627776) :
  Calls Tryz.prog 64 #[ptr b,.string s] w (fun e w'=>e = .returned (.tuple #[.int .i64 s.size,.nilIface])∧Wr B0 b (l ++ X) w w'):=by
 subst hs
 have hX : (bs X).size=X.length:=rfl
 refine (Any.Builder_WriteString_k { Tryz.lays156 with } extra B0 b (Lib.byteCells l) (bs X) w h (by rw [Lib.byteCells_length,hX]; simp at hlen; omega) hB).mono ?_
 rintro e w' ⟨rfl,h1,h2,h3⟩
 have e1:Lib.byteCells l ++ Lib.strCells (bs X)=Lib.byteCells (l ++ X):=by simp [Lib.byteCells,Lib.strCells]
 rw [e1] at h1
 exact ⟨rfl,.inr h1,h2,h3⟩
end Go.Proofs.YtojkkgghndeimaaGreatDoor
namespace Go.Mq.Tree
open Go Go.RowKit Go.Mq
theorem EAt.ptrX {w:World} {F:Nat→Prop} {x:E} {u:Value} (hx : x.isX) (h:EAt w F x [u]) : ∃ b,u=Go.Mq.Tree.ptr b:=by
 cases x with
 | num p n=>obtain ⟨b,hb,_⟩:=h; cases hb; exact ⟨b,rfl⟩
 | var p m n=>obtain ⟨b,hb,_⟩:=h; cases hb; exact ⟨b,rfl⟩
 | item p m n i=>obtain ⟨b,_,hb,_⟩:=h; cases hb; exact ⟨b,rfl⟩
 | un p op x=>obtain ⟨b,_,hb,_⟩:=h; cases hb; exact ⟨b,rfl⟩
 | bin p op x y=>obtain ⟨b,_,_,hb,_⟩:=h; cases hb; exact ⟨b,rfl⟩
 | app p m n l=>obtain ⟨b,_,_,_,hb,_⟩:=h; cases hb; exact ⟨b,rfl⟩
 | nil=>exact hx.elim
 | cons _ _=>exact hx.elim
theorem cells7 {w:World} {F:Nat→Prop} {a:Option Addr} {cs1 cs':List Value} {c0 c1 c2 c3 c4 c5 c6:Value} {k:Nat} (h:Row w F a (cs1 ++ c0 :: c1 :: c2 :: c3 :: c4 :: c5 :: c6 :: cs')) (hl : cs1.length=k * 7) :
  ∃ bb off,a=some ⟨bb,off,none⟩∧w.cell? ⟨bb,off + k * 7,none⟩=some c0∧w.cell? ⟨bb,off + k * 7 + 1,none⟩=some c1∧w.cell? ⟨bb,off + k * 7 + 2,none⟩=some c2∧w.cell? ⟨bb,off + k * 7 + 3,none⟩=some c3∧w.cell? ⟨bb,off + k * 7 + 4,none⟩=some c4∧w.cell? ⟨bb,off + k * 7 + 5,none⟩=some c5∧w.cell? ⟨bb,off + k * 7 + 6,none⟩=some c6:=by
 obtain ⟨bb,off,rfl,hc⟩:=h.at_ (by simp only [List.length_append,List.length_cons]; omega)
 have g : ∀ i v,(c0 :: c1 :: c2 :: c3 :: c4 :: c5 :: c6 :: cs')[i]?=some v→w.cell? ⟨bb,off + k * 7 + i,none⟩=some v:=fun i v hv=>by
  rw [Nat.add_assoc]
  refine hc (k * 7 + i) v ?_
  rw [← hl,List.getElem?_append_right (by omega),Nat.add_sub_cancel_left]
  exact hv
 exact ⟨bb,off,rfl,by simpa using g 0 _ rfl,g 1 _ rfl,g 2 _ rfl,g 3 _ rfl,g 4 _ rfl,g 5 _ rfl,g 6 _ rfl⟩
theorem stmtsT_if0 (p:Nat) (v:E) (t r:S) (tab:List UInt8) : stmtsT (.ifs p v t .nil r) tab=tab ++ [105,102,32] ++ text v ++ [32,116,104,101,110,10] ++ stmtsT t (tab ++ [32,32]) ++ tab ++ [101,110,100,59,10] ++ stmtsT r tab:=by simp [stmtsT,S.isNil]
theorem stmtsT_if1 (p:Nat) (v:E) (t e r:S) (tab:List UInt8) (h : e.isNil=false) : stmtsT (.ifs p v t e r) tab=tab ++ [105,102,32] ++ text v ++ [32,116,104,101,110,10] ++ stmtsT t (tab ++ [32,32]) ++ tab ++ [101,108,115,101,10] ++ stmtsT e (tab ++ [32,32]) ++ tab ++ [101,110,100,59,10] ++ stmtsT r tab:=by simp [stmtsT,h]
theorem stmts_len : ∀ (s:S) (tab:List UInt8),s.len≤(stmtsT s tab).length
 | .nil,_=>Nat.le_refl _
 | .set _ _ _ _ r,tab=>by have:=stmts_len r tab; simp only [S.len,stmtsT,List.length_append,List.length_cons,List.length_nil]; omega
 | .ifs _ _ _ _ r,tab=>by have:=stmts_len r tab; simp only [S.len,stmtsT,List.length_append,List.length_cons,List.length_nil]; omega
 | .whil _ _ _ r,tab=>by have:=stmts_len r tab; simp only [S.len,stmtsT,List.length_append,List.length_cons,List.length_nil]; omega
 | .ret _ _ r,tab=>by have:=stmts_len r tab; simp only [S.len,stmtsT,List.length_append,List.length_cons,List.length_nil]; omega
 | .wri _ _ r,tab=>by have:=stmts_len r tab; simp only [S.len,stmtsT,List.length_append,List.length_cons,List.length_nil]; omega
 | .call _ _ r,tab=>by have:=stmts_len r tab; simp only [S.len,stmtsT,List.length_append,List.length_cons,List.length_nil]; omega
theorem app_len {l1 a:List UInt8} {n:Nat} (h : (l1 ++ a).length≤n) : l1.length + a.length≤n:=by simpa using h
end Go.Mq.Tree
namespace Go.Proofs.YtojkkgghndeimaaGreatDoor
open Go Go.RowKit Go.Mq Go.Mq.Tree
set_option maxRecDepth 100000
set_option maxHeartbeats 8000000
def StmtsOK (s:S):Prop:=∀ (F:Nat→Prop) (v:Value) (w:World) (B B0 b:Nat) (l tab:List UInt8),Laid w B→B≤B0→B0≤w.heap.size→(∀ x,F x→x < B0)→SlAt w F s v→Bd B0 b l w→(l ++ stmtsT s tab).length≤1099511627776 →
  Calls Tryz.prog 68 #[ptr b,v,str tab] w (fun e w'=>e = .returned (.tuple #[])∧Wr B0 b (l ++ stmtsT s tab) w w')
theorem said_of {x:E} {lv d:Nat} (h:Fits d lv x) {F:Nat→Prop} {u:Value} {w w':World} {B B0 b:Nat} {l:List UInt8} (hL:Laid w B) (hB:B≤B0) (hF : ∀ x,F x→x < B0) (hx:EAt w F x [u]) (hw:Wr B0 b l w w') (hl : (text x).length≤1099511627776) :
  Said 71 #[u] w' (bs (text x)):=(text_all x h.1.1).1 h.1.2 F u w' B (hw.laid hL hB) (hw.eat hF hx) hl
theorem stmts_ok (s:S) (d:Nat) (hw:WFS d s) (ha:AllS StmtsOK s):StmtsOK s:=by
 intro F v w B B0 b l tab hL hB hB0 hF hv hb hlen
 obtain ⟨a,c,cs,rfl,hc,hrow,hcs⟩:=hv
 have HL:=Lib.hid hL; have HFB:=Lib.hid hF; have HROW:=Lib.hid hrow; have HCS:=Lib.hid hcs; have HBD:=Lib.hid hb; have HA:=Lib.hid ha; have HWF:=Lib.hid hw
 have HLEN:=Lib.hid hlen
 have hsl : s.len≤1099511627776:=by have h1:=stmts_len s tab; have h2:=app_len hlen; omega
 clear hL hF hrow hcs hb ha hw hlen
 go_enter Tryz.func68,Tryz.ntmps68
 go_wp2_with fail
 go_loopw [7,10] (fun _ i wr=>∃ (k:Nat) (rest:S) (l1:List UInt8) (cs1 cs2:List Value),i = .int .i64 k∧k + rest.len=s.len∧cs=cs1 ++ cs2∧cs1.length=k * 7∧SAt w F rest cs2∧Wr B0 b l1 w wr∧l1 ++ stmtsT rest tab=l ++ stmtsT s tab∧AllS StmtsOK rest∧WFS d rest) (fun _ i _=>s.len - (intOf i).toNat)
 case atStart=>exact ⟨0,s,l,[],cs,rfl,by simp,rfl,rfl,HCS.out,Wr.refl HBD.out,rfl,HA.out,HWF.out⟩
 case round=>
  obtain ⟨k,rest,l1,cs1,cs2,rfl,hk,hcse,hl1,hat,hwr,htx,hal,hwf⟩:=hrel
  have HTX:=Lib.hid htx
  have hln:=HLEN.out
  rw [← htx] at hln
  have HLN:=Lib.hid (app_len hln)
  clear htx hln
  cases rest with
  | nil=>
   have hke : k=s.len:=by simpa [S.len] using hk
   have HWR:=Lib.hid hwr
   clear hat hal hwf hcse hwr
   go_wp2_with fail
   refine bodyPost_end (results_none rfl _ _ _) rfl ⟨rfl,?_⟩
   have e:=HTX.out
   simp only [stmtsT,List.append_nil] at e
   rw [← e]
   exact HWR.out
  | set p n i x r=>
   cases i with
   | none=>
    obtain ⟨ui,uv,cs',rfl,hi,hx,hr⟩:=hat
    obtain ⟨bv,rfl⟩:=EAt.ptrX hwf.2.2.1.1.2 hx
    simp only [AllS] at hal
    have HX:=Lib.hid hx
    have hnl : n.length≤10:=hwf.1.2.2
    have hui : ui=nilp:=hi
    subst hui
    clear hx hi
    have hlt : k < s.len:=by simp only [S.len] at hk; omega
    have hln:=HLN.out
    simp only [stmtsT,List.length_append,List.length_cons,List.length_nil] at hln
    have HLM:=Lib.hid hln
    have hts : tab.length≤1099511627776:=by omega
    obtain ⟨t,ht⟩ : ∃ t:ByteArray,t=bs (text x):=⟨_,rfl⟩
    have hzt : t.size≤1099511627776:=by rw [ht,bs_size]; omega
    have Ht:=Lib.hid ht
    clear ht
    clear hln
    have hrw:=hwr.row HFB.out HROW.out
    rw [hcse] at hrw
    obtain ⟨bb,off,rfl,d0,d1,d2,d3,d4,d5,d6⟩:=cells7 hrw hl1
    have hz:=Blk.new wr #[.int .i64 0,.int .i64 0,str [],nilp,nilp,nils,nils] 138
    obtain ⟨wA,hwA⟩ : ∃ wA,wr.alloc (.cells #[.int .i64 0,.int .i64 0,str [],nilp,nilp,nils,nils] 138)=wA:=⟨_,rfl⟩
    rw [hwA] at hz
    have hcA:Chg [] wr wA:=by rw [← hwA]; exact (Chg.refl _ _).alloc _
    obtain ⟨wF,hwF,hcF,hbF⟩:=set7P (.int .i64 1) (.int .i64 p) (str n) nilp (ptr bv) nils nils hz
    have hcw:Chg [] wr wF:=hcA.trans hcF (fun x hx=>.inr (by simp at hx; omega))
    have g0:=hcA.cellSome d0 (by simp); have g1:=hcA.cellSome d1 (by simp); have g2:=hcA.cellSome d2 (by simp); have g3:=hcA.cellSome d3 (by simp); have g4:=hcA.cellSome d4 (by simp); have g5:=hcA.cellSome d5 (by simp); have g6:=hcA.cellSome d6 (by simp)
    have z0:=hz.cell 0 _ rfl; have z1:=hz.cell 1 _ rfl; have z2:=hz.cell 2 _ rfl; have z3:=hz.cell 3 _ rfl; have z4:=hz.cell 4 _ rfl; have z5:=hz.cell 5 _ rfl; have z6:=hz.cell 6 _ rfl
    have y0:=hz.frozen 0; have y1:=hz.frozen 1; have y2:=hz.frozen 2; have y3:=hz.frozen 3; have y4:=hz.frozen 4; have y5:=hz.frozen 5; have y6:=hz.frozen 6
    have hsw:=hwr.size
    have HW0:=Lib.hid (hwr.chg (by omega) hcw)
    have HB0:=Lib.hid hbF
    have hnb : wr.heap.size≠b:=by have:=hwr.bd.lt; omega
    have HCSE:=Lib.hid hcse
    clear hrw hcA hcF hbF hcw hwr hz hcse
    go_wp2_with fail
    clear hwA hwF d0 d1 d2 d3 d4 d5 d6 g0 g1 g2 g3 g4 g5 g6 z0 z1 z2 z3 z4 z5 z6 y0 y1 y2 y3 y4 y5 y6
    refine (write_any _ (tab) (rfl) HW0.out.bd (by have:=HW0.out.size; omega) (by have:=HLM.out; simp only [List.length_append]; omega)).mono ?_; rintro _ w1 ⟨rfl,hq⟩
    have HW1:=Lib.hid (HW0.out.trans hq)
    have HB1:=Lib.hid (hq.blk HB0.out (by decide) hnb)
    clear hq
    have e0:=HB1.out.cell 0 _ rfl; have e1:=HB1.out.cell 1 _ rfl; have e2:=HB1.out.cell 2 _ rfl; have e3:=HB1.out.cell 3 _ rfl; have e4:=HB1.out.cell 4 _ rfl; have e5:=HB1.out.cell 5 _ rfl; have e6:=HB1.out.cell 6 _ rfl
    go_wp2_with fail
    refine (write_any _ (n) (rfl) HW1.out.bd (by have:=HW1.out.size; omega) (by have:=HLM.out; simp only [List.length_append]; omega)).mono ?_; rintro _ w2 ⟨rfl,hq⟩
    have HW2:=Lib.hid (HW1.out.trans hq)
    have HB2:=Lib.hid (hq.blk HB1.out (by decide) hnb)
    clear hq
    clear e0 e1 e2 e3 e4 e5 e6
    have e0:=HB2.out.cell 0 _ rfl; have e1:=HB2.out.cell 1 _ rfl; have e2:=HB2.out.cell 2 _ rfl; have e3:=HB2.out.cell 3 _ rfl; have e4:=HB2.out.cell 4 _ rfl; have e5:=HB2.out.cell 5 _ rfl; have e6:=HB2.out.cell 6 _ rfl
    go_wp2_with fail
    have hs:=said_of hwf.2.2.1 HL.out hB HFB.out HX.out HW2.out (by have:=HLM.out; omega)
    rw [← Ht.out] at hs
    refine hs.mono ?_; rintro _ w3 ⟨rfl,hq⟩
    have HW3:=Lib.hid (HW2.out.chg (by have:=HW2.out.size; omega) hq)
    have HB3:=Lib.hid (HB2.out.kept hq (by simp))
    clear hs
    clear hq
    clear e0 e1 e2 e3 e4 e5 e6
    have e0:=HB3.out.cell 0 _ rfl; have e1:=HB3.out.cell 1 _ rfl; have e2:=HB3.out.cell 2 _ rfl; have e3:=HB3.out.cell 3 _ rfl; have e4:=HB3.out.cell 4 _ rfl; have e5:=HB3.out.cell 5 _ rfl; have e6:=HB3.out.cell 6 _ rfl
    go_wp2_with fail
    refine (write_any _ ([32,58,61,32] ++ text x ++ [59,10]) (by rw [bs_append,bs_append,← Ht.out] <;> rfl) HW3.out.bd (by have:=HW3.out.size; omega) (by have:=HLM.out; simp only [List.length_append,List.length_cons,List.length_nil]; omega)).mono ?_; rintro _ w4 ⟨rfl,hq⟩
    have HW4:=Lib.hid (HW3.out.trans hq)
    have HB4:=Lib.hid (hq.blk HB3.out (by decide) hnb)
    clear hq
    clear e0 e1 e2 e3 e4 e5 e6
    have e0:=HB4.out.cell 0 _ rfl; have e1:=HB4.out.cell 1 _ rfl; have e2:=HB4.out.cell 2 _ rfl; have e3:=HB4.out.cell 3 _ rfl; have e4:=HB4.out.cell 4 _ rfl; have e5:=HB4.out.cell 5 _ rfl; have e6:=HB4.out.cell 6 _ rfl
    go_wp2_with fail
    refine ⟨⟨k + 1,r,_,cs1 ++ [(.int .i64 1),(.int .i64 p),(str n),nilp,(ptr bv),nils,nils],cs',by go_num,by simp only [S.len] at hk; omega,by rw [HCSE.out]; simp,by simp [hl1]; omega,hr,HW4.out,?_,hal,hwf.2.2.2⟩,by simp [intOf]; omega⟩
    rw [← HTX.out]
    simp [stmtsT]
   | some y=>
    obtain ⟨ui,uv,cs',rfl,hi,hx,hr⟩:=hat
    obtain ⟨bv,rfl⟩:=EAt.ptrX hwf.2.2.1.1.2 hx
    simp only [AllS] at hal
    have HX:=Lib.hid hx
    have hnl : n.length≤10:=hwf.1.2.2
    have hfy:=hwf.2.1 y rfl
    have hy:EAt w F y [ui]:=hi
    obtain ⟨bi,rfl⟩:=EAt.ptrX hfy.1.2 hy
    have HY:=Lib.hid hy
    clear hx hi hy
    have hlt : k < s.len:=by simp only [S.len] at hk; omega
    have hln:=HLN.out
    simp only [stmtsT,List.length_append,List.length_cons,List.length_nil] at hln
    have HLM:=Lib.hid hln
    have hts : tab.length≤1099511627776:=by omega
    obtain ⟨t,ht⟩ : ∃ t:ByteArray,t=bs (text x):=⟨_,rfl⟩
    have hzt : t.size≤1099511627776:=by rw [ht,bs_size]; omega
    have Ht:=Lib.hid ht
    clear ht
    obtain ⟨t2,ht2⟩ : ∃ t2:ByteArray,t2=bs (text y):=⟨_,rfl⟩
    have hzt2 : t2.size≤1099511627776:=by rw [ht2,bs_size]; omega
    have Ht2:=Lib.hid ht2
    clear ht2
    clear hln
    have hrw:=hwr.row HFB.out HROW.out
    rw [hcse] at hrw
    obtain ⟨bb,off,rfl,d0,d1,d2,d3,d4,d5,d6⟩:=cells7 hrw hl1
    have hz:=Blk.new wr #[.int .i64 0,.int .i64 0,str [],nilp,nilp,nils,nils] 138
    obtain ⟨wA,hwA⟩ : ∃ wA,wr.alloc (.cells #[.int .i64 0,.int .i64 0,str [],nilp,nilp,nils,nils] 138)=wA:=⟨_,rfl⟩
    rw [hwA] at hz
    have hcA:Chg [] wr wA:=by rw [← hwA]; exact (Chg.refl _ _).alloc _
    obtain ⟨wF,hwF,hcF,hbF⟩:=set7P (.int .i64 1) (.int .i64 p) (str n) (ptr bi) (ptr bv) nils nils hz
    have hcw:Chg [] wr wF:=hcA.trans hcF (fun x hx=>.inr (by simp at hx; omega))
    have g0:=hcA.cellSome d0 (by simp); have g1:=hcA.cellSome d1 (by simp); have g2:=hcA.cellSome d2 (by simp); have g3:=hcA.cellSome d3 (by simp); have g4:=hcA.cellSome d4 (by simp); have g5:=hcA.cellSome d5 (by simp); have g6:=hcA.cellSome d6 (by simp)
    have z0:=hz.cell 0 _ rfl; have z1:=hz.cell 1 _ rfl; have z2:=hz.cell 2 _ rfl; have z3:=hz.cell 3 _ rfl; have z4:=hz.cell 4 _ rfl; have z5:=hz.cell 5 _ rfl; have z6:=hz.cell 6 _ rfl
    have y0:=hz.frozen 0; have y1:=hz.frozen 1; have y2:=hz.frozen 2; have y3:=hz.frozen 3; have y4:=hz.frozen 4; have y5:=hz.frozen 5; have y6:=hz.frozen 6
    have hsw:=hwr.size
    have HW0:=Lib.hid (hwr.chg (by omega) hcw)
    have HB0:=Lib.hid hbF
    have hnb : wr.heap.size≠b:=by have:=hwr.bd.lt; omega
    have HCSE:=Lib.hid hcse
    clear hrw hcA hcF hbF hcw hwr hz hcse
    go_wp2_with fail
    clear hwA hwF d0 d1 d2 d3 d4 d5 d6 g0 g1 g2 g3 g4 g5 g6 z0 z1 z2 z3 z4 z5 z6 y0 y1 y2 y3 y4 y5 y6
    refine (write_any _ (tab) (rfl) HW0.out.bd (by have:=HW0.out.size; omega) (by have:=HLM.out; simp only [List.length_append]; omega)).mono ?_; rintro _ w1 ⟨rfl,hq⟩
    have HW1:=Lib.hid (HW0.out.trans hq)
    have HB1:=Lib.hid (hq.blk HB0.out (by decide) hnb)
    clear hq
    have e0:=HB1.out.cell 0 _ rfl; have e1:=HB1.out.cell 1 _ rfl; have e2:=HB1.out.cell 2 _ rfl; have e3:=HB1.out.cell 3 _ rfl; have e4:=HB1.out.cell 4 _ rfl; have e5:=HB1.out.cell 5 _ rfl; have e6:=HB1.out.cell 6 _ rfl
    go_wp2_with fail
    refine (write_any _ (n) (rfl) HW1.out.bd (by have:=HW1.out.size; omega) (by have:=HLM.out; simp only [List.length_append]; omega)).mono ?_; rintro _ w2 ⟨rfl,hq⟩
    have HW2:=Lib.hid (HW1.out.trans hq)
    have HB2:=Lib.hid (hq.blk HB1.out (by decide) hnb)
    clear hq
    clear e0 e1 e2 e3 e4 e5 e6
    have e0:=HB2.out.cell 0 _ rfl; have e1:=HB2.out.cell 1 _ rfl; have e2:=HB2.out.cell 2 _ rfl; have e3:=HB2.out.cell 3 _ rfl; have e4:=HB2.out.cell 4 _ rfl; have e5:=HB2.out.cell 5 _ rfl; have e6:=HB2.out.cell 6 _ rfl
    go_wp2_with fail
    have hs:=said_of hfy HL.out hB HFB.out HY.out HW2.out (by have:=HLM.out; omega)
    rw [← Ht2.out] at hs
    refine hs.mono ?_; rintro _ w3 ⟨rfl,hq⟩
    have HW3:=Lib.hid (HW2.out.chg (by have:=HW2.out.size; omega) hq)
    have HB3:=Lib.hid (HB2.out.kept hq (by simp))
    clear hs
    clear hq
    clear e0 e1 e2 e3 e4 e5 e6
    have e0:=HB3.out.cell 0 _ rfl; have e1:=HB3.out.cell 1 _ rfl; have e2:=HB3.out.cell 2 _ rfl; have e3:=HB3.out.cell 3 _ rfl; have e4:=HB3.out.cell 4 _ rfl; have e5:=HB3.out.cell 5 _ rfl; have e6:=HB3.out.cell 6 _ rfl
    go_wp2_with fail
    refine (write_any _ ([91] ++ text y ++ [93]) (by rw [bs_append,bs_append,← Ht2.out] <;> rfl) HW3.out.bd (by have:=HW3.out.size; omega) (by have:=HLM.out; simp only [List.length_append,List.length_cons,List.length_nil]; omega)).mono ?_; rintro _ w4 ⟨rfl,hq⟩
    have HW4:=Lib.hid (HW3.out.trans hq)
    have HB4:=Lib.hid (hq.blk HB3.out (by decide) hnb)
    clear hq
    clear e0 e1 e2 e3 e4 e5 e6
    have e0:=HB4.out.cell 0 _ rfl; have e1:=HB4.out.cell 1 _ rfl; have e2:=HB4.out.cell 2 _ rfl; have e3:=HB4.out.cell 3 _ rfl; have e4:=HB4.out.cell 4 _ rfl; have e5:=HB4.out.cell 5 _ rfl; have e6:=HB4.out.cell 6 _ rfl
    go_wp2_with fail
    have hs:=said_of hwf.2.2.1 HL.out hB HFB.out HX.out HW4.out (by have:=HLM.out; omega)
    rw [← Ht.out] at hs
    refine hs.mono ?_; rintro _ w5 ⟨rfl,hq⟩
    have HW5:=Lib.hid (HW4.out.chg (by have:=HW4.out.size; omega) hq)
    have HB5:=Lib.hid (HB4.out.kept hq (by simp))
    clear hs
    clear hq
    clear e0 e1 e2 e3 e4 e5 e6
    have e0:=HB5.out.cell 0 _ rfl; have e1:=HB5.out.cell 1 _ rfl; have e2:=HB5.out.cell 2 _ rfl; have e3:=HB5.out.cell 3 _ rfl; have e4:=HB5.out.cell 4 _ rfl; have e5:=HB5.out.cell 5 _ rfl; have e6:=HB5.out.cell 6 _ rfl
    go_wp2_with fail
    refine (write_any _ ([32,58,61,32] ++ text x ++ [59,10]) (by rw [bs_append,bs_append,← Ht.out] <;> rfl) HW5.out.bd (by have:=HW5.out.size; omega) (by have:=HLM.out; simp only [List.length_append,List.length_cons,List.length_nil]; omega)).mono ?_; rintro _ w6 ⟨rfl,hq⟩
    have HW6:=Lib.hid (HW5.out.trans hq)
    have HB6:=Lib.hid (hq.blk HB5.out (by decide) hnb)
    clear hq
    clear e0 e1 e2 e3 e4 e5 e6
    have e0:=HB6.out.cell 0 _ rfl; have e1:=HB6.out.cell 1 _ rfl; have e2:=HB6.out.cell 2 _ rfl; have e3:=HB6.out.cell 3 _ rfl; have e4:=HB6.out.cell 4 _ rfl; have e5:=HB6.out.cell 5 _ rfl; have e6:=HB6.out.cell 6 _ rfl
    go_wp2_with fail
    refine ⟨⟨k + 1,r,_,cs1 ++ [(.int .i64 1),(.int .i64 p),(str n),(ptr bi),(ptr bv),nils,nils],cs',by go_num,by simp only [S.len] at hk; omega,by rw [HCSE.out]; simp,by simp [hl1]; omega,hr,HW6.out,?_,hal,hwf.2.2.2⟩,by simp [intOf]; omega⟩
    rw [← HTX.out]
    simp [stmtsT]
  | ret p x r=>
   obtain ⟨uv,cs',rfl,hx,hr⟩:=hat
   obtain ⟨bv,rfl⟩:=EAt.ptrX hwf.1.1.2 hx
   simp only [AllS] at hal
   have HX:=Lib.hid hx
   clear hx
   have hlt : k < s.len:=by simp only [S.len] at hk; omega
   have hln:=HLN.out
   simp only [stmtsT,List.length_append,List.length_cons,List.length_nil] at hln
   have HLM:=Lib.hid hln
   have hts : tab.length≤1099511627776:=by omega
   obtain ⟨t,ht⟩ : ∃ t:ByteArray,t=bs (text x):=⟨_,rfl⟩
   have hzt : t.size≤1099511627776:=by rw [ht,bs_size]; omega
   have Ht:=Lib.hid ht
   clear ht
   clear hln
   have hrw:=hwr.row HFB.out HROW.out
   rw [hcse] at hrw
   obtain ⟨bb,off,rfl,d0,d1,d2,d3,d4,d5,d6⟩:=cells7 hrw hl1
   have hz:=Blk.new wr #[.int .i64 0,.int .i64 0,str [],nilp,nilp,nils,nils] 138
   obtain ⟨wA,hwA⟩ : ∃ wA,wr.alloc (.cells #[.int .i64 0,.int .i64 0,str [],nilp,nilp,nils,nils] 138)=wA:=⟨_,rfl⟩
   rw [hwA] at hz
   have hcA:Chg [] wr wA:=by rw [← hwA]; exact (Chg.refl _ _).alloc _
   obtain ⟨wF,hwF,hcF,hbF⟩:=set7P (.int .i64 4) (.int .i64 p) (str []) nilp (ptr bv) nils nils hz
   have hcw:Chg [] wr wF:=hcA.trans hcF (fun x hx=>.inr (by simp at hx; omega))
   have g0:=hcA.cellSome d0 (by simp); have g1:=hcA.cellSome d1 (by simp); have g2:=hcA.cellSome d2 (by simp); have g3:=hcA.cellSome d3 (by simp); have g4:=hcA.cellSome d4 (by simp); have g5:=hcA.cellSome d5 (by simp); have g6:=hcA.cellSome d6 (by simp)
   have z0:=hz.cell 0 _ rfl; have z1:=hz.cell 1 _ rfl; have z2:=hz.cell 2 _ rfl; have z3:=hz.cell 3 _ rfl; have z4:=hz.cell 4 _ rfl; have z5:=hz.cell 5 _ rfl; have z6:=hz.cell 6 _ rfl
   have y0:=hz.frozen 0; have y1:=hz.frozen 1; have y2:=hz.frozen 2; have y3:=hz.frozen 3; have y4:=hz.frozen 4; have y5:=hz.frozen 5; have y6:=hz.frozen 6
   have hsw:=hwr.size
   have HW0:=Lib.hid (hwr.chg (by omega) hcw)
   have HB0:=Lib.hid hbF
   have hnb : wr.heap.size≠b:=by have:=hwr.bd.lt; omega
   have HCSE:=Lib.hid hcse
   clear hrw hcA hcF hbF hcw hwr hz hcse
   go_wp2_with fail
   clear hwA hwF d0 d1 d2 d3 d4 d5 d6 g0 g1 g2 g3 g4 g5 g6 z0 z1 z2 z3 z4 z5 z6 y0 y1 y2 y3 y4 y5 y6
   refine (write_any _ (tab) (rfl) HW0.out.bd (by have:=HW0.out.size; omega) (by have:=HLM.out; simp only [List.length_append]; omega)).mono ?_; rintro _ w1 ⟨rfl,hq⟩
   have HW1:=Lib.hid (HW0.out.trans hq)
   have HB1:=Lib.hid (hq.blk HB0.out (by decide) hnb)
   clear hq
   have e0:=HB1.out.cell 0 _ rfl; have e1:=HB1.out.cell 1 _ rfl; have e2:=HB1.out.cell 2 _ rfl; have e3:=HB1.out.cell 3 _ rfl; have e4:=HB1.out.cell 4 _ rfl; have e5:=HB1.out.cell 5 _ rfl; have e6:=HB1.out.cell 6 _ rfl
   go_wp2_with fail
   have hs:=said_of hwf.1 HL.out hB HFB.out HX.out HW1.out (by have:=HLM.out; omega)
   rw [← Ht.out] at hs
   refine hs.mono ?_; rintro _ w2 ⟨rfl,hq⟩
   have HW2:=Lib.hid (HW1.out.chg (by have:=HW1.out.size; omega) hq)
   have HB2:=Lib.hid (HB1.out.kept hq (by simp))
   clear hs
   clear hq
   clear e0 e1 e2 e3 e4 e5 e6
   have e0:=HB2.out.cell 0 _ rfl; have e1:=HB2.out.cell 1 _ rfl; have e2:=HB2.out.cell 2 _ rfl; have e3:=HB2.out.cell 3 _ rfl; have e4:=HB2.out.cell 4 _ rfl; have e5:=HB2.out.cell 5 _ rfl; have e6:=HB2.out.cell 6 _ rfl
   go_wp2_with fail
   refine (write_any _ ([114,101,116,117,114,110,32] ++ text x ++ [59,10]) (by rw [bs_append,bs_append,← Ht.out] <;> rfl) HW2.out.bd (by have:=HW2.out.size; omega) (by have:=HLM.out; simp only [List.length_append,List.length_cons,List.length_nil]; omega)).mono ?_; rintro _ w3 ⟨rfl,hq⟩
   have HW3:=Lib.hid (HW2.out.trans hq)
   have HB3:=Lib.hid (hq.blk HB2.out (by decide) hnb)
   clear hq
   clear e0 e1 e2 e3 e4 e5 e6
   have e0:=HB3.out.cell 0 _ rfl; have e1:=HB3.out.cell 1 _ rfl; have e2:=HB3.out.cell 2 _ rfl; have e3:=HB3.out.cell 3 _ rfl; have e4:=HB3.out.cell 4 _ rfl; have e5:=HB3.out.cell 5 _ rfl; have e6:=HB3.out.cell 6 _ rfl
   go_wp2_with fail
   refine ⟨⟨k + 1,r,_,cs1 ++ [(.int .i64 4),(.int .i64 p),(str []),nilp,(ptr bv),nils,nils],cs',by go_num,by simp only [S.len] at hk; omega,by rw [HCSE.out]; simp,by simp [hl1]; omega,hr,HW3.out,?_,hal,hwf.2⟩,by simp [intOf]; omega⟩
   rw [← HTX.out]
   simp [stmtsT]
  | wri p x r=>
   obtain ⟨uv,cs',rfl,hx,hr⟩:=hat
   obtain ⟨bv,rfl⟩:=EAt.ptrX hwf.1.1.2 hx
   simp only [AllS] at hal
   have HX:=Lib.hid hx
   clear hx
   have hlt : k < s.len:=by simp only [S.len] at hk; omega
   have hln:=HLN.out
   simp only [stmtsT,List.length_append,List.length_cons,List.length_nil] at hln
   have HLM:=Lib.hid hln
   have hts : tab.length≤1099511627776:=by omega
   obtain ⟨t,ht⟩ : ∃ t:ByteArray,t=bs (text x):=⟨_,rfl⟩
   have hzt : t.size≤1099511627776:=by rw [ht,bs_size]; omega
   have Ht:=Lib.hid ht
   clear ht
   clear hln
   have hrw:=hwr.row HFB.out HROW.out
   rw [hcse] at hrw
   obtain ⟨bb,off,rfl,d0,d1,d2,d3,d4,d5,d6⟩:=cells7 hrw hl1
   have hz:=Blk.new wr #[.int .i64 0,.int .i64 0,str [],nilp,nilp,nils,nils] 138
   obtain ⟨wA,hwA⟩ : ∃ wA,wr.alloc (.cells #[.int .i64 0,.int .i64 0,str [],nilp,nilp,nils,nils] 138)=wA:=⟨_,rfl⟩
   rw [hwA] at hz
   have hcA:Chg [] wr wA:=by rw [← hwA]; exact (Chg.refl _ _).alloc _
   obtain ⟨wF,hwF,hcF,hbF⟩:=set7P (.int .i64 5) (.int .i64 p) (str []) nilp (ptr bv) nils nils hz
   have hcw:Chg [] wr wF:=hcA.trans hcF (fun x hx=>.inr (by simp at hx; omega))
   have g0:=hcA.cellSome d0 (by simp); have g1:=hcA.cellSome d1 (by simp); have g2:=hcA.cellSome d2 (by simp); have g3:=hcA.cellSome d3 (by simp); have g4:=hcA.cellSome d4 (by simp); have g5:=hcA.cellSome d5 (by simp); have g6:=hcA.cellSome d6 (by simp)
   have z0:=hz.cell 0 _ rfl; have z1:=hz.cell 1 _ rfl; have z2:=hz.cell 2 _ rfl; have z3:=hz.cell 3 _ rfl; have z4:=hz.cell 4 _ rfl; have z5:=hz.cell 5 _ rfl; have z6:=hz.cell 6 _ rfl
   have y0:=hz.frozen 0; have y1:=hz.frozen 1; have y2:=hz.frozen 2; have y3:=hz.frozen 3; have y4:=hz.frozen 4; have y5:=hz.frozen 5; have y6:=hz.frozen 6
   have hsw:=hwr.size
   have HW0:=Lib.hid (hwr.chg (by omega) hcw)
   have HB0:=Lib.hid hbF
   have hnb : wr.heap.size≠b:=by have:=hwr.bd.lt; omega
   have HCSE:=Lib.hid hcse
   clear hrw hcA hcF hbF hcw hwr hz hcse
   go_wp2_with fail
   clear hwA hwF d0 d1 d2 d3 d4 d5 d6 g0 g1 g2 g3 g4 g5 g6 z0 z1 z2 z3 z4 z5 z6 y0 y1 y2 y3 y4 y5 y6
   refine (write_any _ (tab) (rfl) HW0.out.bd (by have:=HW0.out.size; omega) (by have:=HLM.out; simp only [List.length_append]; omega)).mono ?_; rintro _ w1 ⟨rfl,hq⟩
   have HW1:=Lib.hid (HW0.out.trans hq)
   have HB1:=Lib.hid (hq.blk HB0.out (by decide) hnb)
   clear hq
   have e0:=HB1.out.cell 0 _ rfl; have e1:=HB1.out.cell 1 _ rfl; have e2:=HB1.out.cell 2 _ rfl; have e3:=HB1.out.cell 3 _ rfl; have e4:=HB1.out.cell 4 _ rfl; have e5:=HB1.out.cell 5 _ rfl; have e6:=HB1.out.cell 6 _ rfl
   go_wp2_with fail
   have hs:=said_of hwf.1 HL.out hB HFB.out HX.out HW1.out (by have:=HLM.out; omega)
   rw [← Ht.out] at hs
   refine hs.mono ?_; rintro _ w2 ⟨rfl,hq⟩
   have HW2:=Lib.hid (HW1.out.chg (by have:=HW1.out.size; omega) hq)
   have HB2:=Lib.hid (HB1.out.kept hq (by simp))
   clear hs
   clear hq
   clear e0 e1 e2 e3 e4 e5 e6
   have e0:=HB2.out.cell 0 _ rfl; have e1:=HB2.out.cell 1 _ rfl; have e2:=HB2.out.cell 2 _ rfl; have e3:=HB2.out.cell 3 _ rfl; have e4:=HB2.out.cell 4 _ rfl; have e5:=HB2.out.cell 5 _ rfl; have e6:=HB2.out.cell 6 _ rfl
   go_wp2_with fail
   refine (write_any _ ([119,114,105,116,101,32] ++ text x ++ [59,10]) (by rw [bs_append,bs_append,← Ht.out] <;> rfl) HW2.out.bd (by have:=HW2.out.size; omega) (by have:=HLM.out; simp only [List.length_append,List.length_cons,List.length_nil]; omega)).mono ?_; rintro _ w3 ⟨rfl,hq⟩
   have HW3:=Lib.hid (HW2.out.trans hq)
   have HB3:=Lib.hid (hq.blk HB2.out (by decide) hnb)
   clear hq
   clear e0 e1 e2 e3 e4 e5 e6
   have e0:=HB3.out.cell 0 _ rfl; have e1:=HB3.out.cell 1 _ rfl; have e2:=HB3.out.cell 2 _ rfl; have e3:=HB3.out.cell 3 _ rfl; have e4:=HB3.out.cell 4 _ rfl; have e5:=HB3.out.cell 5 _ rfl; have e6:=HB3.out.cell 6 _ rfl
   go_wp2_with fail
   refine ⟨⟨k + 1,r,_,cs1 ++ [(.int .i64 5),(.int .i64 p),(str []),nilp,(ptr bv),nils,nils],cs',by go_num,by simp only [S.len] at hk; omega,by rw [HCSE.out]; simp,by simp [hl1]; omega,hr,HW3.out,?_,hal,hwf.2⟩,by simp [intOf]; omega⟩
   rw [← HTX.out]
   simp [stmtsT]
  | call p x r=>
   obtain ⟨uv,cs',rfl,hx,hr⟩:=hat
   obtain ⟨bv,rfl⟩:=EAt.ptrX hwf.1.1.1.2 hx
   simp only [AllS] at hal
   have HX:=Lib.hid hx
   clear hx
   have hlt : k < s.len:=by simp only [S.len] at hk; omega
   have hln:=HLN.out
   simp only [stmtsT,List.length_append,List.length_cons,List.length_nil] at hln
   have HLM:=Lib.hid hln
   have hts : tab.length≤1099511627776:=by omega
   obtain ⟨t,ht⟩ : ∃ t:ByteArray,t=bs (text x):=⟨_,rfl⟩
   have hzt : t.size≤1099511627776:=by rw [ht,bs_size]; omega
   have Ht:=Lib.hid ht
   clear ht
   clear hln
   have hrw:=hwr.row HFB.out HROW.out
   rw [hcse] at hrw
   obtain ⟨bb,off,rfl,d0,d1,d2,d3,d4,d5,d6⟩:=cells7 hrw hl1
   have hz:=Blk.new wr #[.int .i64 0,.int .i64 0,str [],nilp,nilp,nils,nils] 138
   obtain ⟨wA,hwA⟩ : ∃ wA,wr.alloc (.cells #[.int .i64 0,.int .i64 0,str [],nilp,nilp,nils,nils] 138)=wA:=⟨_,rfl⟩
   rw [hwA] at hz
   have hcA:Chg [] wr wA:=by rw [← hwA]; exact (Chg.refl _ _).alloc _
   obtain ⟨wF,hwF,hcF,hbF⟩:=set7P (.int .i64 6) (.int .i64 p) (str []) nilp (ptr bv) nils nils hz
   have hcw:Chg [] wr wF:=hcA.trans hcF (fun x hx=>.inr (by simp at hx; omega))
   have g0:=hcA.cellSome d0 (by simp); have g1:=hcA.cellSome d1 (by simp); have g2:=hcA.cellSome d2 (by simp); have g3:=hcA.cellSome d3 (by simp); have g4:=hcA.cellSome d4 (by simp); have g5:=hcA.cellSome d5 (by simp); have g6:=hcA.cellSome d6 (by simp)
   have z0:=hz.cell 0 _ rfl; have z1:=hz.cell 1 _ rfl; have z2:=hz.cell 2 _ rfl; have z3:=hz.cell 3 _ rfl; have z4:=hz.cell 4 _ rfl; have z5:=hz.cell 5 _ rfl; have z6:=hz.cell 6 _ rfl
   have y0:=hz.frozen 0; have y1:=hz.frozen 1; have y2:=hz.frozen 2; have y3:=hz.frozen 3; have y4:=hz.frozen 4; have y5:=hz.frozen 5; have y6:=hz.frozen 6
   have hsw:=hwr.size
   have HW0:=Lib.hid (hwr.chg (by omega) hcw)
   have HB0:=Lib.hid hbF
   have hnb : wr.heap.size≠b:=by have:=hwr.bd.lt; omega
   have HCSE:=Lib.hid hcse
   clear hrw hcA hcF hbF hcw hwr hz hcse
   go_wp2_with fail
   clear hwA hwF d0 d1 d2 d3 d4 d5 d6 g0 g1 g2 g3 g4 g5 g6 z0 z1 z2 z3 z4 z5 z6 y0 y1 y2 y3 y4 y5 y6
   refine (write_any _ (tab) (rfl) HW0.out.bd (by have:=HW0.out.size; omega) (by have:=HLM.out; simp only [List.length_append]; omega)).mono ?_; rintro _ w1 ⟨rfl,hq⟩
   have HW1:=Lib.hid (HW0.out.trans hq)
   have HB1:=Lib.hid (hq.blk HB0.out (by decide) hnb)
   clear hq
   have e0:=HB1.out.cell 0 _ rfl; have e1:=HB1.out.cell 1 _ rfl; have e2:=HB1.out.cell 2 _ rfl; have e3:=HB1.out.cell 3 _ rfl; have e4:=HB1.out.cell 4 _ rfl; have e5:=HB1.out.cell 5 _ rfl; have e6:=HB1.out.cell 6 _ rfl
   go_wp2_with fail
   have hs:=said_of hwf.1.1 HL.out hB HFB.out HX.out HW1.out (by have:=HLM.out; omega)
   rw [← Ht.out] at hs
   refine hs.mono ?_; rintro _ w2 ⟨rfl,hq⟩
   have HW2:=Lib.hid (HW1.out.chg (by have:=HW1.out.size; omega) hq)
   have HB2:=Lib.hid (HB1.out.kept hq (by simp))
   clear hs
   clear hq
   clear e0 e1 e2 e3 e4 e5 e6
   have e0:=HB2.out.cell 0 _ rfl; have e1:=HB2.out.cell 1 _ rfl; have e2:=HB2.out.cell 2 _ rfl; have e3:=HB2.out.cell 3 _ rfl; have e4:=HB2.out.cell 4 _ rfl; have e5:=HB2.out.cell 5 _ rfl; have e6:=HB2.out.cell 6 _ rfl
   go_wp2_with fail
   refine (write_any _ (text x ++ [59,10]) (by rw [bs_append,← Ht.out] <;> rfl) HW2.out.bd (by have:=HW2.out.size; omega) (by have:=HLM.out; simp only [List.length_append,List.length_cons,List.length_nil]; omega)).mono ?_; rintro _ w3 ⟨rfl,hq⟩
   have HW3:=Lib.hid (HW2.out.trans hq)
   have HB3:=Lib.hid (hq.blk HB2.out (by decide) hnb)
   clear hq
   clear e0 e1 e2 e3 e4 e5 e6
   have e0:=HB3.out.cell 0 _ rfl; have e1:=HB3.out.cell 1 _ rfl; have e2:=HB3.out.cell 2 _ rfl; have e3:=HB3.out.cell 3 _ rfl; have e4:=HB3.out.cell 4 _ rfl; have e5:=HB3.out.cell 5 _ rfl; have e6:=HB3.out.cell 6 _ rfl
   go_wp2_with fail
   refine ⟨⟨k + 1,r,_,cs1 ++ [(.int .i64 6),(.int .i64 p),(str []),nilp,(ptr bv),nils,nils],cs',by go_num,by simp only [S.len] at hk; omega,by rw [HCSE.out]; simp,by simp [hl1]; omega,hr,HW3.out,?_,hal,hwf.2⟩,by simp [intOf]; omega⟩
   rw [← HTX.out]
   simp [stmtsT]
  | whil p x y r=>
   obtain ⟨uv,a1,c1,ts,cs',rfl,hx,hc1,hr1,hs1,hr⟩:=hat
   obtain ⟨bv,rfl⟩:=EAt.ptrX hwf.1.1.2 hx
   simp only [AllS] at hal
   have HX:=Lib.hid hx
   have HSL:=Lib.hid (show SlAt w F y (.slice a1 y.len c1) from ⟨a1,c1,ts,rfl,hc1,hr1,hs1⟩)
   have HAL:=Lib.hid hal.1
   clear hx hr1 hs1
   have hlt : k < s.len:=by simp only [S.len] at hk; omega
   have hln:=HLN.out
   simp only [stmtsT,List.length_append,List.length_cons,List.length_nil] at hln
   have HLM:=Lib.hid hln
   have hts : tab.length≤1099511627776:=by omega
   obtain ⟨t,ht⟩ : ∃ t:ByteArray,t=bs (text x):=⟨_,rfl⟩
   have hzt : t.size≤1099511627776:=by rw [ht,bs_size]; omega
   have Ht:=Lib.hid ht
   clear ht
   clear hln
   have hrw:=hwr.row HFB.out HROW.out
   rw [hcse] at hrw
   obtain ⟨bb,off,rfl,d0,d1,d2,d3,d4,d5,d6⟩:=cells7 hrw hl1
   have hz:=Blk.new wr #[.int .i64 0,.int .i64 0,str [],nilp,nilp,nils,nils] 138
   obtain ⟨wA,hwA⟩ : ∃ wA,wr.alloc (.cells #[.int .i64 0,.int .i64 0,str [],nilp,nilp,nils,nils] 138)=wA:=⟨_,rfl⟩
   rw [hwA] at hz
   have hcA:Chg [] wr wA:=by rw [← hwA]; exact (Chg.refl _ _).alloc _
   obtain ⟨wF,hwF,hcF,hbF⟩:=set7P (.int .i64 3) (.int .i64 p) (str []) nilp (ptr bv) (.slice a1 y.len c1) nils hz
   have hcw:Chg [] wr wF:=hcA.trans hcF (fun x hx=>.inr (by simp at hx; omega))
   have g0:=hcA.cellSome d0 (by simp); have g1:=hcA.cellSome d1 (by simp); have g2:=hcA.cellSome d2 (by simp); have g3:=hcA.cellSome d3 (by simp); have g4:=hcA.cellSome d4 (by simp); have g5:=hcA.cellSome d5 (by simp); have g6:=hcA.cellSome d6 (by simp)
   have z0:=hz.cell 0 _ rfl; have z1:=hz.cell 1 _ rfl; have z2:=hz.cell 2 _ rfl; have z3:=hz.cell 3 _ rfl; have z4:=hz.cell 4 _ rfl; have z5:=hz.cell 5 _ rfl; have z6:=hz.cell 6 _ rfl
   have y0:=hz.frozen 0; have y1:=hz.frozen 1; have y2:=hz.frozen 2; have y3:=hz.frozen 3; have y4:=hz.frozen 4; have y5:=hz.frozen 5; have y6:=hz.frozen 6
   have hsw:=hwr.size
   have HW0:=Lib.hid (hwr.chg (by omega) hcw)
   have HB0:=Lib.hid hbF
   have hnb : wr.heap.size≠b:=by have:=hwr.bd.lt; omega
   have HCSE:=Lib.hid hcse
   clear hrw hcA hcF hbF hcw hwr hz hcse
   go_wp2_with fail
   clear hwA hwF d0 d1 d2 d3 d4 d5 d6 g0 g1 g2 g3 g4 g5 g6 z0 z1 z2 z3 z4 z5 z6 y0 y1 y2 y3 y4 y5 y6
   refine (write_any _ (tab) (rfl) HW0.out.bd (by have:=HW0.out.size; omega) (by have:=HLM.out; simp only [List.length_append]; omega)).mono ?_; rintro _ w1 ⟨rfl,hq⟩
   have HW1:=Lib.hid (HW0.out.trans hq)
   have HB1:=Lib.hid (hq.blk HB0.out (by decide) hnb)
   clear hq
   have e0:=HB1.out.cell 0 _ rfl; have e1:=HB1.out.cell 1 _ rfl; have e2:=HB1.out.cell 2 _ rfl; have e3:=HB1.out.cell 3 _ rfl; have e4:=HB1.out.cell 4 _ rfl; have e5:=HB1.out.cell 5 _ rfl; have e6:=HB1.out.cell 6 _ rfl
   go_wp2_with fail
   have hs:=said_of hwf.1 HL.out hB HFB.out HX.out HW1.out (by have:=HLM.out; omega)
   rw [← Ht.out] at hs
   refine hs.mono ?_; rintro _ w2 ⟨rfl,hq⟩
   have HW2:=Lib.hid (HW1.out.chg (by have:=HW1.out.size; omega) hq)
   have HB2:=Lib.hid (HB1.out.kept hq (by simp))
   clear hs
   clear hq
   clear e0 e1 e2 e3 e4 e5 e6
   have e0:=HB2.out.cell 0 _ rfl; have e1:=HB2.out.cell 1 _ rfl; have e2:=HB2.out.cell 2 _ rfl; have e3:=HB2.out.cell 3 _ rfl; have e4:=HB2.out.cell 4 _ rfl; have e5:=HB2.out.cell 5 _ rfl; have e6:=HB2.out.cell 6 _ rfl
   go_wp2_with fail
   refine (write_any _ ([119,104,105,108,101,32] ++ text x ++ [32,100,111,10]) (by rw [bs_append,bs_append,← Ht.out] <;> rfl) HW2.out.bd (by have:=HW2.out.size; omega) (by have:=HLM.out; simp only [List.length_append,List.length_cons,List.length_nil]; omega)).mono ?_; rintro _ w3 ⟨rfl,hq⟩
   have HW3:=Lib.hid (HW2.out.trans hq)
   have HB3:=Lib.hid (hq.blk HB2.out (by decide) hnb)
   clear hq
   clear e0 e1 e2 e3 e4 e5 e6
   have e0:=HB3.out.cell 0 _ rfl; have e1:=HB3.out.cell 1 _ rfl; have e2:=HB3.out.cell 2 _ rfl; have e3:=HB3.out.cell 3 _ rfl; have e4:=HB3.out.cell 4 _ rfl; have e5:=HB3.out.cell 5 _ rfl; have e6:=HB3.out.cell 6 _ rfl
   go_wp2_with fail
   have hs:=HAL.out F (.slice a1 y.len c1) w3 B B0 b _ (tab ++ [32,32]) (HW3.out.laid HL.out hB) hB (by have:=HW3.out.size; omega) HFB.out (HW3.out.sl HFB.out HSL.out) HW3.out.bd (by have:=HLM.out; simp only [List.length_append,List.length_cons,List.length_nil]; omega)
   rw [show str (tab ++ [32,32])=Value.string (bs tab ++ ⟨#[32,32]⟩) from congrArg Value.string (bs_append tab [32,32])] at hs
   refine hs.mono ?_; rintro _ w4 ⟨rfl,hq⟩
   have HW4:=Lib.hid (HW3.out.trans hq)
   have HB4:=Lib.hid (hq.blk HB3.out (by decide) hnb)
   clear hs
   clear hq
   clear e0 e1 e2 e3 e4 e5 e6
   have e0:=HB4.out.cell 0 _ rfl; have e1:=HB4.out.cell 1 _ rfl; have e2:=HB4.out.cell 2 _ rfl; have e3:=HB4.out.cell 3 _ rfl; have e4:=HB4.out.cell 4 _ rfl; have e5:=HB4.out.cell 5 _ rfl; have e6:=HB4.out.cell 6 _ rfl
   go_wp2_with fail
   refine (write_any _ (tab ++ [101,110,100,59,10]) (by rw [bs_append] <;> rfl) HW4.out.bd (by have:=HW4.out.size; omega) (by have:=HLM.out; simp only [List.length_append,List.length_cons,List.length_nil]; omega)).mono ?_; rintro _ w5 ⟨rfl,hq⟩
   have HW5:=Lib.hid (HW4.out.trans hq)
   have HB5:=Lib.hid (hq.blk HB4.out (by decide) hnb)
   clear hq
   clear e0 e1 e2 e3 e4 e5 e6
   have e0:=HB5.out.cell 0 _ rfl; have e1:=HB5.out.cell 1 _ rfl; have e2:=HB5.out.cell 2 _ rfl; have e3:=HB5.out.cell 3 _ rfl; have e4:=HB5.out.cell 4 _ rfl; have e5:=HB5.out.cell 5 _ rfl; have e6:=HB5.out.cell 6 _ rfl
   go_wp2_with fail
   refine ⟨⟨k + 1,r,_,cs1 ++ [(.int .i64 3),(.int .i64 p),(str []),nilp,(ptr bv),(.slice a1 y.len c1),nils],cs',by go_num,by simp only [S.len] at hk; omega,by rw [HCSE.out]; simp,by simp [hl1]; omega,hr,HW5.out,?_,hal.2,hwf.2.2⟩,by simp [intOf]; omega⟩
   rw [← HTX.out]
   simp [stmtsT]
  | ifs p x y z r=>
   cases hzn : z.isNil with
   | true=>
    have hz0:=isNil_len hzn
    subst hz0
    obtain ⟨uv,a1,c1,ts,a2,c2,es,cs',rfl,hx,hc1,hr1,hs1,hc2,hr2,hs2,hr⟩:=hat
    obtain ⟨bv,rfl⟩:=EAt.ptrX hwf.1.1.2 hx
    simp only [AllS] at hal
    have HX:=Lib.hid hx
    have HSL:=Lib.hid (show SlAt w F y (.slice a1 y.len c1) from ⟨a1,c1,ts,rfl,hc1,hr1,hs1⟩)
    have HSE:=Lib.hid (show SlAt w F .nil (.slice a2 0 c2) from ⟨a2,c2,es,rfl,hc2,hr2,hs2⟩)
    have HAL:=Lib.hid hal.1
    have HALE:=Lib.hid hal.2.1
    clear hx hr1 hs1 hr2 hs2
    have hlt : k < s.len:=by simp only [S.len] at hk; omega
    have hln:=HLN.out
    simp only [stmtsT_if0,List.length_append,List.length_cons,List.length_nil] at hln
    have HLM:=Lib.hid hln
    have hts : tab.length≤1099511627776:=by omega
    obtain ⟨t,ht⟩ : ∃ t:ByteArray,t=bs (text x):=⟨_,rfl⟩
    have hzt : t.size≤1099511627776:=by rw [ht,bs_size]; omega
    have Ht:=Lib.hid ht
    clear ht
    clear hln
    have hrw:=hwr.row HFB.out HROW.out
    rw [hcse] at hrw
    obtain ⟨bb,off,rfl,d0,d1,d2,d3,d4,d5,dx⟩:=cells7 hrw hl1
    have d6 : wr.cell? ⟨bb,off + k * 7 + 6,none⟩=some (.slice a2 0 c2):=dx
    clear dx
    have hz:=Blk.new wr #[.int .i64 0,.int .i64 0,str [],nilp,nilp,nils,nils] 138
    obtain ⟨wA,hwA⟩ : ∃ wA,wr.alloc (.cells #[.int .i64 0,.int .i64 0,str [],nilp,nilp,nils,nils] 138)=wA:=⟨_,rfl⟩
    rw [hwA] at hz
    have hcA:Chg [] wr wA:=by rw [← hwA]; exact (Chg.refl _ _).alloc _
    obtain ⟨wF,hwF,hcF,hbF⟩:=set7P (.int .i64 2) (.int .i64 p) (str []) nilp (ptr bv) (.slice a1 y.len c1) (.slice a2 0 c2) hz
    have hcw:Chg [] wr wF:=hcA.trans hcF (fun x hx=>.inr (by simp at hx; omega))
    have g0:=hcA.cellSome d0 (by simp); have g1:=hcA.cellSome d1 (by simp); have g2:=hcA.cellSome d2 (by simp); have g3:=hcA.cellSome d3 (by simp); have g4:=hcA.cellSome d4 (by simp); have g5:=hcA.cellSome d5 (by simp); have g6:=hcA.cellSome d6 (by simp)
    have z0:=hz.cell 0 _ rfl; have z1:=hz.cell 1 _ rfl; have z2:=hz.cell 2 _ rfl; have z3:=hz.cell 3 _ rfl; have z4:=hz.cell 4 _ rfl; have z5:=hz.cell 5 _ rfl; have z6:=hz.cell 6 _ rfl
    have y0:=hz.frozen 0; have y1:=hz.frozen 1; have y2:=hz.frozen 2; have y3:=hz.frozen 3; have y4:=hz.frozen 4; have y5:=hz.frozen 5; have y6:=hz.frozen 6
    have hsw:=hwr.size
    have HW0:=Lib.hid (hwr.chg (by omega) hcw)
    have HB0:=Lib.hid hbF
    have hnb : wr.heap.size≠b:=by have:=hwr.bd.lt; omega
    have HCSE:=Lib.hid hcse
    clear hrw hcA hcF hbF hcw hwr hz hcse
    go_wp2_with fail
    clear hwA hwF d0 d1 d2 d3 d4 d5 d6 g0 g1 g2 g3 g4 g5 g6 z0 z1 z2 z3 z4 z5 z6 y0 y1 y2 y3 y4 y5 y6
    refine (write_any _ (tab) (rfl) HW0.out.bd (by have:=HW0.out.size; omega) (by have:=HLM.out; simp only [List.length_append]; omega)).mono ?_; rintro _ w1 ⟨rfl,hq⟩
    have HW1:=Lib.hid (HW0.out.trans hq)
    have HB1:=Lib.hid (hq.blk HB0.out (by decide) hnb)
    clear hq
    have e0:=HB1.out.cell 0 _ rfl; have e1:=HB1.out.cell 1 _ rfl; have e2:=HB1.out.cell 2 _ rfl; have e3:=HB1.out.cell 3 _ rfl; have e4:=HB1.out.cell 4 _ rfl; have e5:=HB1.out.cell 5 _ rfl; have e6:=HB1.out.cell 6 _ rfl
    go_wp2_with fail
    have hs:=said_of hwf.1 HL.out hB HFB.out HX.out HW1.out (by have:=HLM.out; omega)
    rw [← Ht.out] at hs
    refine hs.mono ?_; rintro _ w2 ⟨rfl,hq⟩
    have HW2:=Lib.hid (HW1.out.chg (by have:=HW1.out.size; omega) hq)
    have HB2:=Lib.hid (HB1.out.kept hq (by simp))
    clear hs
    clear hq
    clear e0 e1 e2 e3 e4 e5 e6
    have e0:=HB2.out.cell 0 _ rfl; have e1:=HB2.out.cell 1 _ rfl; have e2:=HB2.out.cell 2 _ rfl; have e3:=HB2.out.cell 3 _ rfl; have e4:=HB2.out.cell 4 _ rfl; have e5:=HB2.out.cell 5 _ rfl; have e6:=HB2.out.cell 6 _ rfl
    go_wp2_with fail
    refine (write_any _ ([105,102,32] ++ text x ++ [32,116,104,101,110,10]) (by rw [bs_append,bs_append,← Ht.out] <;> rfl) HW2.out.bd (by have:=HW2.out.size; omega) (by have:=HLM.out; simp only [List.length_append,List.length_cons,List.length_nil]; omega)).mono ?_; rintro _ w3 ⟨rfl,hq⟩
    have HW3:=Lib.hid (HW2.out.trans hq)
    have HB3:=Lib.hid (hq.blk HB2.out (by decide) hnb)
    clear hq
    clear e0 e1 e2 e3 e4 e5 e6
    have e0:=HB3.out.cell 0 _ rfl; have e1:=HB3.out.cell 1 _ rfl; have e2:=HB3.out.cell 2 _ rfl; have e3:=HB3.out.cell 3 _ rfl; have e4:=HB3.out.cell 4 _ rfl; have e5:=HB3.out.cell 5 _ rfl; have e6:=HB3.out.cell 6 _ rfl
    go_wp2_with fail
    have hs:=HAL.out F (.slice a1 y.len c1) w3 B B0 b _ (tab ++ [32,32]) (HW3.out.laid HL.out hB) hB (by have:=HW3.out.size; omega) HFB.out (HW3.out.sl HFB.out HSL.out) HW3.out.bd (by have:=HLM.out; simp only [List.length_append,List.length_cons,List.length_nil]; omega)
    rw [show str (tab ++ [32,32])=Value.string (bs tab ++ ⟨#[32,32]⟩) from congrArg Value.string (bs_append tab [32,32])] at hs
    refine hs.mono ?_; rintro _ w4 ⟨rfl,hq⟩
    have HW4:=Lib.hid (HW3.out.trans hq)
    have HB4:=Lib.hid (hq.blk HB3.out (by decide) hnb)
    clear hs
    clear hq
    clear e0 e1 e2 e3 e4 e5 e6
    have e0:=HB4.out.cell 0 _ rfl; have e1:=HB4.out.cell 1 _ rfl; have e2:=HB4.out.cell 2 _ rfl; have e3:=HB4.out.cell 3 _ rfl; have e4:=HB4.out.cell 4 _ rfl; have e5:=HB4.out.cell 5 _ rfl; have e6:=HB4.out.cell 6 _ rfl
    go_wp2_with fail
    refine (write_any _ (tab ++ [101,110,100,59,10]) (by rw [bs_append] <;> rfl) HW4.out.bd (by have:=HW4.out.size; omega) (by have:=HLM.out; simp only [List.length_append,List.length_cons,List.length_nil]; omega)).mono ?_; rintro _ w5 ⟨rfl,hq⟩
    have HW5:=Lib.hid (HW4.out.trans hq)
    have HB5:=Lib.hid (hq.blk HB4.out (by decide) hnb)
    clear hq
    clear e0 e1 e2 e3 e4 e5 e6
    have e0:=HB5.out.cell 0 _ rfl; have e1:=HB5.out.cell 1 _ rfl; have e2:=HB5.out.cell 2 _ rfl; have e3:=HB5.out.cell 3 _ rfl; have e4:=HB5.out.cell 4 _ rfl; have e5:=HB5.out.cell 5 _ rfl; have e6:=HB5.out.cell 6 _ rfl
    go_wp2_with fail
    refine ⟨⟨k + 1,r,_,cs1 ++ [(.int .i64 2),(.int .i64 p),(str []),nilp,(ptr bv),(.slice a1 y.len c1),(.slice a2 0 c2)],cs',by go_num,by simp only [S.len] at hk; omega,by rw [HCSE.out]; simp [S.len],by simp [hl1]; omega,hr,HW5.out,?_,hal.2.2,hwf.2.2⟩,by simp [intOf]; omega⟩
    rw [← HTX.out]
    simp [stmtsT_if0]
   | false=>
    have hzl : 0 < z.len:=by cases z <;> simp_all [S.isNil,S.len]
    obtain ⟨uv,a1,c1,ts,a2,c2,es,cs',rfl,hx,hc1,hr1,hs1,hc2,hr2,hs2,hr⟩:=hat
    obtain ⟨bv,rfl⟩:=EAt.ptrX hwf.1.1.2 hx
    simp only [AllS] at hal
    have HX:=Lib.hid hx
    have HSL:=Lib.hid (show SlAt w F y (.slice a1 y.len c1) from ⟨a1,c1,ts,rfl,hc1,hr1,hs1⟩)
    have HSE:=Lib.hid (show SlAt w F z (.slice a2 z.len c2) from ⟨a2,c2,es,rfl,hc2,hr2,hs2⟩)
    have HAL:=Lib.hid hal.1
    have HALE:=Lib.hid hal.2.1
    clear hx hr1 hs1 hr2 hs2
    have hlt : k < s.len:=by simp only [S.len] at hk; omega
    have hln:=HLN.out
    simp only [stmtsT_if1 _ _ _ _ _ _ hzn,List.length_append,List.length_cons,List.length_nil] at hln
    have HLM:=Lib.hid hln
    have hts : tab.length≤1099511627776:=by omega
    obtain ⟨t,ht⟩ : ∃ t:ByteArray,t=bs (text x):=⟨_,rfl⟩
    have hzt : t.size≤1099511627776:=by rw [ht,bs_size]; omega
    have Ht:=Lib.hid ht
    clear ht
    clear hln
    have hrw:=hwr.row HFB.out HROW.out
    rw [hcse] at hrw
    obtain ⟨bb,off,rfl,d0,d1,d2,d3,d4,d5,d6⟩:=cells7 hrw hl1
    have hz:=Blk.new wr #[.int .i64 0,.int .i64 0,str [],nilp,nilp,nils,nils] 138
    obtain ⟨wA,hwA⟩ : ∃ wA,wr.alloc (.cells #[.int .i64 0,.int .i64 0,str [],nilp,nilp,nils,nils] 138)=wA:=⟨_,rfl⟩
    rw [hwA] at hz
    have hcA:Chg [] wr wA:=by rw [← hwA]; exact (Chg.refl _ _).alloc _
    obtain ⟨wF,hwF,hcF,hbF⟩:=set7P (.int .i64 2) (.int .i64 p) (str []) nilp (ptr bv) (.slice a1 y.len c1) (.slice a2 z.len c2) hz
    have hcw:Chg [] wr wF:=hcA.trans hcF (fun x hx=>.inr (by simp at hx; omega))
    have g0:=hcA.cellSome d0 (by simp); have g1:=hcA.cellSome d1 (by simp); have g2:=hcA.cellSome d2 (by simp); have g3:=hcA.cellSome d3 (by simp); have g4:=hcA.cellSome d4 (by simp); have g5:=hcA.cellSome d5 (by simp); have g6:=hcA.cellSome d6 (by simp)
    have z0:=hz.cell 0 _ rfl; have z1:=hz.cell 1 _ rfl; have z2:=hz.cell 2 _ rfl; have z3:=hz.cell 3 _ rfl; have z4:=hz.cell 4 _ rfl; have z5:=hz.cell 5 _ rfl; have z6:=hz.cell 6 _ rfl
    have y0:=hz.frozen 0; have y1:=hz.frozen 1; have y2:=hz.frozen 2; have y3:=hz.frozen 3; have y4:=hz.frozen 4; have y5:=hz.frozen 5; have y6:=hz.frozen 6
    have hsw:=hwr.size
    have HW0:=Lib.hid (hwr.chg (by omega) hcw)
    have HB0:=Lib.hid hbF
    have hnb : wr.heap.size≠b:=by have:=hwr.bd.lt; omega
    have HCSE:=Lib.hid hcse
    clear hrw hcA hcF hbF hcw hwr hz hcse
    go_wp2_with fail
    clear hwA hwF d0 d1 d2 d3 d4 d5 d6 g0 g1 g2 g3 g4 g5 g6 z0 z1 z2 z3 z4 z5 z6 y0 y1 y2 y3 y4 y5 y6
    refine (write_any _ (tab) (rfl) HW0.out.bd (by have:=HW0.out.size; omega) (by have:=HLM.out; simp only [List.length_append]; omega)).mono ?_; rintro _ w1 ⟨rfl,hq⟩
    have HW1:=Lib.hid (HW0.out.trans hq)
    have HB1:=Lib.hid (hq.blk HB0.out (by decide) hnb)
    clear hq
    have e0:=HB1.out.cell 0 _ rfl; have e1:=HB1.out.cell 1 _ rfl; have e2:=HB1.out.cell 2 _ rfl; have e3:=HB1.out.cell 3 _ rfl; have e4:=HB1.out.cell 4 _ rfl; have e5:=HB1.out.cell 5 _ rfl; have e6:=HB1.out.cell 6 _ rfl
    go_wp2_with fail
    have hs:=said_of hwf.1 HL.out hB HFB.out HX.out HW1.out (by have:=HLM.out; omega)
    rw [← Ht.out] at hs
    refine hs.mono ?_; rintro _ w2 ⟨rfl,hq⟩
    have HW2:=Lib.hid (HW1.out.chg (by have:=HW1.out.size; omega) hq)
    have HB2:=Lib.hid (HB1.out.kept hq (by simp))
    clear hs
    clear hq
    clear e0 e1 e2 e3 e4 e5 e6
    have e0:=HB2.out.cell 0 _ rfl; have e1:=HB2.out.cell 1 _ rfl; have e2:=HB2.out.cell 2 _ rfl; have e3:=HB2.out.cell 3 _ rfl; have e4:=HB2.out.cell 4 _ rfl; have e5:=HB2.out.cell 5 _ rfl; have e6:=HB2.out.cell 6 _ rfl
    go_wp2_with fail
    refine (write_any _ ([105,102,32] ++ text x ++ [32,116,104,101,110,10]) (by rw [bs_append,bs_append,← Ht.out] <;> rfl) HW2.out.bd (by have:=HW2.out.size; omega) (by have:=HLM.out; simp only [List.length_append,List.length_cons,List.length_nil]; omega)).mono ?_; rintro _ w3 ⟨rfl,hq⟩
    have HW3:=Lib.hid (HW2.out.trans hq)
    have HB3:=Lib.hid (hq.blk HB2.out (by decide) hnb)
    clear hq
    clear e0 e1 e2 e3 e4 e5 e6
    have e0:=HB3.out.cell 0 _ rfl; have e1:=HB3.out.cell 1 _ rfl; have e2:=HB3.out.cell 2 _ rfl; have e3:=HB3.out.cell 3 _ rfl; have e4:=HB3.out.cell 4 _ rfl; have e5:=HB3.out.cell 5 _ rfl; have e6:=HB3.out.cell 6 _ rfl
    go_wp2_with fail
    have hs:=HAL.out F (.slice a1 y.len c1) w3 B B0 b _ (tab ++ [32,32]) (HW3.out.laid HL.out hB) hB (by have:=HW3.out.size; omega) HFB.out (HW3.out.sl HFB.out HSL.out) HW3.out.bd (by have:=HLM.out; simp only [List.length_append,List.length_cons,List.length_nil]; omega)
    rw [show str (tab ++ [32,32])=Value.string (bs tab ++ ⟨#[32,32]⟩) from congrArg Value.string (bs_append tab [32,32])] at hs
    refine hs.mono ?_; rintro _ w4 ⟨rfl,hq⟩
    have HW4:=Lib.hid (HW3.out.trans hq)
    have HB4:=Lib.hid (hq.blk HB3.out (by decide) hnb)
    clear hs
    clear hq
    clear e0 e1 e2 e3 e4 e5 e6
    have e0:=HB4.out.cell 0 _ rfl; have e1:=HB4.out.cell 1 _ rfl; have e2:=HB4.out.cell 2 _ rfl; have e3:=HB4.out.cell 3 _ rfl; have e4:=HB4.out.cell 4 _ rfl; have e5:=HB4.out.cell 5 _ rfl; have e6:=HB4.out.cell 6 _ rfl
    go_wp2_with fail
    refine (write_any _ (tab ++ [101,108,115,101,10]) (by rw [bs_append] <;> rfl) HW4.out.bd (by have:=HW4.out.size; omega) (by have:=HLM.out; simp only [List.length_append,List.length_cons,List.length_nil]; omega)).mono ?_; rintro _ w5 ⟨rfl,hq⟩
    have HW5:=Lib.hid (HW4.out.trans hq)
    have HB5:=Lib.hid (hq.blk HB4.out (by decide) hnb)
    clear hq
    clear e0 e1 e2 e3 e4 e5 e6
    have e0:=HB5.out.cell 0 _ rfl; have e1:=HB5.out.cell 1 _ rfl; have e2:=HB5.out.cell 2 _ rfl; have e3:=HB5.out.cell 3 _ rfl; have e4:=HB5.out.cell 4 _ rfl; have e5:=HB5.out.cell 5 _ rfl; have e6:=HB5.out.cell 6 _ rfl
    go_wp2_with fail
    have hs:=HALE.out F (.slice a2 z.len c2) w5 B B0 b _ (tab ++ [32,32]) (HW5.out.laid HL.out hB) hB (by have:=HW5.out.size; omega) HFB.out (HW5.out.sl HFB.out HSE.out) HW5.out.bd (by have:=HLM.out; simp only [List.length_append,List.length_cons,List.length_nil]; omega)
    rw [show str (tab ++ [32,32])=Value.string (bs tab ++ ⟨#[32,32]⟩) from congrArg Value.string (bs_append tab [32,32])] at hs
    refine hs.mono ?_; rintro _ w6 ⟨rfl,hq⟩
    have HW6:=Lib.hid (HW5.out.trans hq)
    have HB6:=Lib.hid (hq.blk HB5.out (by decide) hnb)
    clear hs
    clear hq
    clear e0 e1 e2 e3 e4 e5 e6
    have e0:=HB6.out.cell 0 _ rfl; have e1:=HB6.out.cell 1 _ rfl; have e2:=HB6.out.cell 2 _ rfl; have e3:=HB6.out.cell 3 _ rfl; have e4:=HB6.out.cell 4 _ rfl; have e5:=HB6.out.cell 5 _ rfl; have e6:=HB6.out.cell 6 _ rfl
    go_wp2_with fail
    refine (write_any _ (tab ++ [101,110,100,59,10]) (by rw [bs_append] <;> rfl) HW6.out.bd (by have:=HW6.out.size; omega) (by have:=HLM.out; simp only [List.length_append,List.length_cons,List.length_nil]; omega)).mono ?_; rintro _ w7 ⟨rfl,hq⟩
    have HW7:=Lib.hid (HW6.out.trans hq)
    have HB7:=Lib.hid (hq.blk HB6.out (by decide) hnb)
    clear hq
    clear e0 e1 e2 e3 e4 e5 e6
    have e0:=HB7.out.cell 0 _ rfl; have e1:=HB7.out.cell 1 _ rfl; have e2:=HB7.out.cell 2 _ rfl; have e3:=HB7.out.cell 3 _ rfl; have e4:=HB7.out.cell 4 _ rfl; have e5:=HB7.out.cell 5 _ rfl; have e6:=HB7.out.cell 6 _ rfl
    go_wp2_with fail
    refine ⟨⟨k + 1,r,_,cs1 ++ [(.int .i64 2),(.int .i64 p),(str []),nilp,(ptr bv),(.slice a1 y.len c1),(.slice a2 z.len c2)],cs',by go_num,by simp only [S.len] at hk; omega,by rw [HCSE.out]; simp,by simp [hl1]; omega,hr,HW7.out,?_,hal.2.2,hwf.2.2⟩,by simp [intOf]; omega⟩
    rw [← HTX.out]
    simp [stmtsT_if1 _ _ _ _ _ _ hzn]
theorem stmts_all : ∀ (s:S) (d:Nat),WFS d s→StmtsOK s∧AllS StmtsOK s
 | .nil,d,h=>⟨stmts_ok .nil d h trivial,trivial⟩
 | .set _ _ _ _ r,d,h=>have q:AllS StmtsOK (.set _ _ _ _ r):=(stmts_all r d h.2.2.2).2; ⟨stmts_ok _ d h q,q⟩
 | .ifs _ _ t e r,d,h=>have q:AllS StmtsOK (.ifs _ _ t e r):=⟨(stmts_all t (d - 1) h.2.1.1.2).1,(stmts_all e (d - 1) h.2.1.2.2).1,(stmts_all r d h.2.2).2⟩; ⟨stmts_ok _ d h q,q⟩
 | .whil _ _ t r,d,h=>have q:AllS StmtsOK (.whil _ _ t r):=⟨(stmts_all t (d - 1) h.2.1.2).1,(stmts_all r d h.2.2).2⟩; ⟨stmts_ok _ d h q,q⟩
 | .ret _ _ r,d,h=>have q:AllS StmtsOK (.ret _ _ r):=(stmts_all r d h.2).2; ⟨stmts_ok _ d h q,q⟩
 | .wri _ _ r,d,h=>have q:AllS StmtsOK (.wri _ _ r):=(stmts_all r d h.2).2; ⟨stmts_ok _ d h q,q⟩
 | .call _ _ r,d,h=>have q:AllS StmtsOK (.call _ _ r):=(stmts_all r d h.2).2; ⟨stmts_ok _ d h q,q⟩
end Go.Proofs.YtojkkgghndeimaaGreatDoor
