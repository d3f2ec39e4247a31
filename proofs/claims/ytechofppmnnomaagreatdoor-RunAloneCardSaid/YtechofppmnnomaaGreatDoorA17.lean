/- Some texts in one. -/
import Derived.Lib.ItoaLen
import Derived.Test.YtechofppmnnomaaGreatDoorA10
import Derived.Test.YtechofppmnnomaaGreatDoorA11
import Derived.Test.YtechofppmnnomaaGreatDoorA13
import Derived.Test.YtechofppmnnomaaGreatDoorA16
namespace Go.Mq.Sym
open Go Go.RowKit Go.Mq Go.Mq.Tree
structure Sy.fit (s:Sy):Prop where
 name : s.name.length≤1000000
 Y0 : 0≤s.len
 Y2 : s.len≤1000000
 Y4 : -1≤s.args
 JZ : s.args≤1000000
theorem Y5 {s:Sy} (h : s.fit) : (jA s).length≤1000100:=by
 have h1:=Lib.itoa_length_le s.args (by have:=h.Y4;omega) (by have:=h.JZ;omega);have h2:=Lib.itoa_length_le s.len (by have:=h.Y0;omega) (by have:=h.Y2;omega);have h3:=h.name;rw [jA];split
 ·simp;omega
 ·split <;> simp <;> omega
def l8 (w:World) (F:Nat→Prop) (l:List Sy) (v:Value):Prop:=∃ a c,v = .slice a l.length c∧l.length≤c∧Row w F a (l.flatMap Sy.cells)∧(a=none→c=0)
theorem l8.kept {Z:List Nat} {w w':World} {F:Nat→Prop} {l:List Sy} {v:Value} (h:l8 w F l v) (hc:ae Z w w') (hS : ∀ x∈Z,¬ F x):l8 w' F l v:=by
 obtain⟨a,c,h1,h2,h3,h4⟩:=h;exact⟨a,c,h1,h2,h3.kept hc hS,h4⟩
theorem l8.mono {w:World} {F G:Nat→Prop} {l:List Sy} {v:Value} (h:l8 w F l v) (hF : ∀ x,F x→G x):l8 w G l v:=by
 obtain⟨a,c,h1,h2,h3,h4⟩:=h;exact⟨a,c,h1,h2,h3.mono hF,h4⟩
theorem J2 {w:World} {F:Nat→Prop} {a:Option Addr} {l:List Sy} (h:Row w F a (l.flatMap Sy.cells)) {k:Nat} {s:Sy} (hk : l[k]?=some s) :
  ∃ bb off,a=some ⟨bb,off,none⟩∧w.cell? ⟨bb,off + k * 3,none⟩=some (str s.name)∧w.cell? ⟨bb,off + k * 3 + 1,none⟩=some (.int .i64 s.len)∧w.cell? ⟨bb,off + k * 3 + 2,none⟩=some (.int .i64 s.args):=by
 have hkl : k < l.length:=(List.getElem?_eq_some_iff.1 hk).1;have key : ∀ (l:List Sy) (k:Nat),l[k]?=some s → ∀ i,i < 3→(l.flatMap Sy.cells)[k * 3 + i]?=s.cells[i]?:=by
  intro l
  induction l with
  | nil=>intro k hk;simp at hk
  | cons x r ih=>
   intro k hk i hi;rw [List.flatMap_cons];cases k with
   | zero=>
    simp at hk
    subst hk;rw [List.getElem?_append_left (by simp [Sy.cells];omega)];simp
   | succ k=>
    rw [List.getElem?_append_right (by simp [Sy.cells];omega),show (k + 1) * 3 + i - x.cells.length=k * 3 + i by simp [Sy.cells];omega];exact ih k (by simpa using hk) i hi
 obtain⟨bb,off,rfl,hc⟩:=h.at_ (by
  have h1:=key l k hk 0 (by omega);have h2:=(List.getElem?_eq_some_iff.1 (h1.trans (show s.cells[0]?=some (.string (bs s.name)) from rfl))).1;omega)
 refine⟨bb,off,rfl,?_,?_,?_⟩
 ·have:=hc (k * 3 + 0) (str s.name) (by rw [key l k hk 0 (by omega)];rfl);simpa using this
 ·have:=hc (k * 3 + 1) (.int .i64 s.len) (by rw [key l k hk 1 (by omega)];rfl);rwa [← Nat.add_assoc] at this
 ·have:=hc (k * 3 + 2) (.int .i64 s.args) (by rw [key l k hk 2 (by omega)];rfl);rwa [← Nat.add_assoc] at this
theorem CZ {w:World} {b:Nat} (v0 v1 v2:Value) {u0 u1 u2:Value} {t:TypeId} (h:ag w b #[u0,u1,u2] t) : ∃ wF,(((w.setCell ⟨b,0,none⟩ v0).setCell ⟨b,1,none⟩ v1).setCell ⟨b,2,none⟩ v2)=wF∧ae [b] w wF∧ag wF b #[v0,v1,v2] t:=
 ⟨_,rfl,((ae.set1 _ _ _ _).then (ae.set1 _ _ _ _)).then (ae.set1 _ _ _ _),by
  have:=((h.set 0 v0).set 1 v1).set 2 v2
  simpa using this⟩
end Go.Mq.Sym
namespace Go.Proofs.YtechofppmnnomaaGreatDoor
open Go Go.RowKit Go.Mq Go.Mq.Tree Go.Mq.Sym
set_option maxRecDepth 100000
set_option maxHeartbeats 2000000
theorem Y6 (s:Sy) (hf : s.fit) (w:World) (B:Nat) (hL:Laid w B):Calls Tryz.prog 97 #[.agg #[str s.name,.int .i64 s.len,.int .i64 s.args]] w (fun e w'=>e = .returned (str (jA s))∧ae [] w w'):=by
 obtain⟨hn,hl0,hl1,ha0,ha1⟩:=hf;obtain⟨nm,hnm⟩ : ∃ n:ByteArray,n=bs s.name:=⟨_,rfl⟩
 have hnz : nm.size≤1000000:=by rw [hnm];exact hn
 have l7:=zh hnm
 change Calls _ _ #[.agg #[.string (bs s.name),.int .i64 s.len,.int .i64 s.args]] _ _
 rw [← hnm];obtain⟨wA,ay⟩ : ∃ wA,w.alloc (.cells #[.string nm,.int .i64 s.len,.int .i64 s.args] 185)=wA:=⟨_,rfl⟩
 have mU:=ag.new w #[.string nm,.int .i64 s.len,.int .i64 s.args] 185;have hcA:ae [] w wA:=by rw [← ay];exact(ae.refl _ _).alloc _
 rw [ay] at mU;have x0:=mU.cell 0 _ rfl;have x1:=mU.cell 1 _ rfl;have x2:=mU.cell 2 _ rfl;have HC:=zh hcA;have HB:=zh mU;have dK:=zh (show w.heap.size < wA.drew.heap.size from mU.lt);have HZ:=zh (bX.of (X:=[]) (w0:=wA.drew) (off:=0) (b:=w.heap.size) x0 (by simp));have HDR:=zh (hcA.drew);have HIT:=zh (fun(n:Int) (h0 : 0≤n) (h1 : n≤9223372036854775807) (w':World) (hc:ae [] w w')=>YY n h0 h1 w' B (hL.kept hc (by simp)));clear hcA mU hL hnm hn;by_cases h0 : 0≤s.args
 ·obtain⟨t,ht⟩ : ∃ t:ByteArray,t=bs (Lib.itoa s.args):=⟨_,rfl⟩
  have htz : t.size≤21:=by rw [ht];exact Lib.itoa_length_le s.args (by omega) (by omega)
  have HR:=zh (show bs (jA s)=bs [112,114,111,99,32] ++ nm ++ bs [32] ++ t ++ bs [10] by rw [jA,if_pos h0,oO,oO,oO,oO,← l7.out,← ht]);have HI:=zh (show ∀ w',ae [] w w'→Calls Tryz.prog 61 #[.int .i64 s.args] w' (fun e w''=>e = .returned (.string t)∧ae [] w' w'') from fun w' hc=>by rw [ht];exact HIT.out s.args h0 (by omega) w' hc);clear ht
  go_enter Tryz.func97,Tryz.ntmps97
  go_wp2_with fail;refine kX [] rfl (by kernel_rfl) ?_;have hS:ae [] wA.drew wA.drew:=ae.refl _ _
  repeat ((with_reducible refine gX ?_);(first|refine aL ?_|refine sK ?_|refine sM fun _ _=>?_|refine sL fun _ _=>?_|refine sE fun _ _=>?_);go_wp2_with fail)
  refine(HI.out _ (HDR.out.then hS)).mono ?_;rintro _ wj ⟨rfl,hw⟩;have hS:=hS.then hw;clear hw
  go_wp2_with fail;refine And.intro hS ?_
  repeat ((with_reducible refine gX ?_);(first|refine aL ?_|refine sK ?_|refine sM fun _ _=>?_|refine sL fun _ _=>?_|refine sE fun _ _=>?_);go_wp2_with fail)
  have HE:=zh (HDR.out.then hS);go_ret
  exact⟨congrArg (fun t=>Ending.returned (Value.string t)) HR.out.symm,HE.out⟩
 ·by_cases h1 : 0 < s.len
  ·obtain⟨t,ht⟩ : ∃ t:ByteArray,t=bs (Lib.itoa s.len):=⟨_,rfl⟩
   have htz : t.size≤21:=by rw [ht];exact Lib.itoa_length_le s.len (by omega) (by omega)
   have HR:=zh (show bs (jA s)=bs [97,114,114,97,121,32] ++ nm ++ bs [32] ++ t ++ bs [10] by rw [jA,if_neg h0,if_pos h1,oO,oO,oO,oO,← l7.out,← ht]);have HI:=zh (show ∀ w',ae [] w w'→Calls Tryz.prog 61 #[.int .i64 s.len] w' (fun e w''=>e = .returned (.string t)∧ae [] w' w'') from fun w' hc=>by rw [ht];exact HIT.out s.len hl0 (by omega) w' hc);clear ht
   go_enter Tryz.func97,Tryz.ntmps97
   go_wp2_with fail;refine kX [] rfl (by kernel_rfl) ?_;have hS:ae [] wA.drew wA.drew:=ae.refl _ _
   repeat ((with_reducible refine gX ?_);(first|refine aL ?_|refine sK ?_|refine sM fun _ _=>?_|refine sL fun _ _=>?_|refine sE fun _ _=>?_);go_wp2_with fail)
   refine(HI.out _ (HDR.out.then hS)).mono ?_;rintro _ wj ⟨rfl,hw⟩;have hS:=hS.then hw;clear hw
   go_wp2_with fail;refine And.intro hS ?_
   repeat ((with_reducible refine gX ?_);(first|refine aL ?_|refine sK ?_|refine sM fun _ _=>?_|refine sL fun _ _=>?_|refine sE fun _ _=>?_);go_wp2_with fail)
   have HE:=zh (HDR.out.then hS);go_ret
   exact⟨congrArg (fun t=>Ending.returned (Value.string t)) HR.out.symm,HE.out⟩
  ·have HR:=zh (show bs (jA s)=bs [105,110,116,32] ++ nm ++ bs [10] by rw [jA,if_neg h0,if_neg h1,oO,oO,← l7.out])
   have h0' : s.args < 0:=by omega
   have h1' : ¬ 0 < s.len:=h1
   go_enter Tryz.func97,Tryz.ntmps97
   go_wp2_with fail;go_ret
   exact⟨congrArg (fun t=>Ending.returned (Value.string t)) HR.out.symm,HC.out⟩
end Go.Proofs.YtechofppmnnomaaGreatDoor
namespace Go.Mq.Sym
open Go Go.RowKit Go.Mq Go.Mq.Tree
def nP (l:List Sy) (n:List UInt8):Int:=match jB l n with
 | none=>-1
 | some k=>k
theorem Y7 {l:List Sy} {n:List UInt8} {k:Nat} {s:Sy} (hk : l[k]?=some s) (hs : s.name=n) (hb : ∀ (i:Nat) (x:Sy),i < k→l[i]?=some x→x.name≠n) : jB l n=some k:=by
 have hlt:=(List.getElem?_eq_some_iff.1 hk).1;have hg:=(List.getElem?_eq_some_iff.1 hk).2;rw [jB,List.findIdx?_eq_some_iff_getElem];refine⟨hlt,by rw [hg];simpa using hs,fun i hi=>?_⟩;have:=hb i l[i] hi (List.getElem?_eq_getElem (by omega))
 simpa using this
theorem Y8 {l:List Sy} {n:List UInt8} (hb : ∀ (i:Nat) (x:Sy),l[i]?=some x→x.name≠n) : jB l n=none:=by
 rw [jB,List.findIdx?_eq_none_iff];intro x hx;obtain⟨i,hi⟩:=List.getElem?_of_mem hx
 simpa using hb i x hi
theorem PQ {l:List Sy} {n:List UInt8} {k:Nat} (h : jB l n=some k) : k < l.length:=by
 rw [jB,List.findIdx?_eq_some_iff_getElem] at h;exact h.1
end Go.Mq.Sym
namespace Go.Proofs.YtechofppmnnomaaGreatDoor
open Go Go.RowKit Go.Mq Go.Mq.Tree Go.Mq.Sym
set_option maxRecDepth 100000
set_option maxHeartbeats 2000000
theorem Y9 (s:Sy) (n:List UInt8) (b:Nat) (w:World) (hb : w.cell? ⟨b,0,none⟩=some (str n)):Calls Tryz.prog 126 #[.agg #[str s.name,.int .i64 s.len,.int .i64 s.args],ptr b] w (fun e w'=>e = .returned (.bool (s.name == n))∧ae [] w w'):=by
 have hlt:=lt_of_cell hb;have hb':=((ae.refl [] w).alloc (.cells #[str s.name,.int .i64 s.len,.int .i64 s.args] 185)).aF hb (by simp)
 go_enter Tryz.func126,Tryz.ntmps126
 go_wp2_with fail;go_ret
 exact⟨rfl,(ae.refl _ _).alloc _⟩
theorem Za (l:List Sy) (hl : l.length≤1000) (n:List UInt8) (b:Nat) (F:Nat→Prop) (v:Value) (w:World) (h:l8 w F l v) (hb : w.cell? ⟨b,0,none⟩=some (str n)) :
  Calls Tryz.prog 125 #[v,.func (.func 126) #[] #[ptr b]] w (fun e w'=>e = .returned (.int .i64 (nP l n))∧ae [] w w'):=by
 obtain⟨a,c,rfl,hac,hrow,_⟩:=h;have fH:=zh hrow;have HB:=zh hb;clear hrow hb
 go_enter Tryz.func125,Tryz.ntmps125
 go_wp2_with fail
 go_loopw [5,8] (fun _ i wr=>∃ k:Nat,i = .int .i64 k∧k≤l.length∧ae [] w wr ∧ ∀ (i:Nat) (x:Sy),i < k→l[i]?=some x→x.name≠n) (fun _ i _=>l.length - (intOf i).toNat)
 case atStart=>exact⟨0,rfl,Nat.zero_le _,ae.refl _ _,fun i x hi=>by omega⟩
 case round=>
  obtain⟨k,rfl,hk,hc,hno⟩:=hrel;have eu:=zh hno;have HC:=zh hc;clear hno hc;by_cases hlt : k < l.length
  ·obtain⟨s,hs⟩ : ∃ s,l[k]?=some s:=⟨l[k],List.getElem?_eq_getElem hlt⟩
   obtain⟨bb,off,rfl,d0,d1,d2⟩:=J2 (fH.out.kept HC.out (by simp)) hs;have HS:=zh hs;have HI:=zh (Y9 s n b wr (HC.out.aF HB.out (by simp)));clear hs;cases hq : (s.name == n) with
   | true=>
    rw [hq] at HI;have HR:=zh (show nP l n=k by rw [nP,Y7 HS.out (by simpa using hq) eu.out]);clear hq;go_wp2_with fail;refine HI.out.mono ?_;rintro _ w2 ⟨rfl,hq⟩;have HQ:=zh (HC.out.then hq);clear hq;go_wp2_with fail;go_ret
    exact⟨by rw [HR.out];rfl,HQ.out⟩
   | false=>
    rw [hq] at HI;have HN:=zh (show s.name≠n by simpa using hq);clear hq;go_wp2_with fail;refine HI.out.mono ?_;rintro _ w2 ⟨rfl,hq⟩;have HQ:=zh (HC.out.then hq);clear hq;go_wp2_with fail;refine⟨⟨k + 1,by go_num,by omega,HQ.out,fun i x hi hx=>?_⟩,by simp [intOf];omega⟩;by_cases he : i < k
    ·exact eu.out i x he hx
    ·have : i=k:=by omega
     subst this;rw [HS.out] at hx;cases hx
     exact HN.out
  ·have HR:=zh (show nP l n = -1 by rw [nP,Y8 fun i x hx=>eu.out i x (by have:=(List.getElem?_eq_some_iff.1 hx).1;omega) hx])
   go_wp2_with fail;go_ret
   exact⟨by rw [HR.out];rfl,HC.out⟩
theorem PR (l:List Sy) (hl : l.length≤1000) (n:List UInt8) (F:Nat→Prop) (v:Value) (w:World) (h:l8 w F l v) :
  Calls Tryz.prog 96 #[v,str n] w (fun e w'=>e = .returned (.int .i64 (nP l n))∧ae [] w w'):=by
 have pU : ∀ (fn:Fn) (first cap:Array Value) (w:World),(Instr.makeFunc fn first cap).run Tryz.prog w = .ok (.func fn first cap) w:=fun _ _ _ _=>rfl
 have hc:ae [] w (w.alloc (.cells #[str n] 9)):=(ae.refl _ _).alloc _;have HI:=zh (Za l hl n w.heap.size F v (w.alloc (.cells #[str n] 9)) (h.kept hc (by simp)) ((ag.new w #[str n] 9).cell 0 _ rfl));have HC:=zh hc;clear h hc
 go_enter Tryz.func96,Tryz.ntmps96
 go_wp2_with fail;refine HI.out.mono ?_;rintro _ w2 ⟨rfl,hq⟩;have HQ:=zh (HC.out.then hq);clear hq;go_wp2_with fail;go_ret
 exact⟨rfl,HQ.out⟩
theorem Zb (l:List Sy) (hf : ∀ x∈l,x.fit) (hl : l.length≤1000) (names:List (List UInt8)) (hn : names.length≤1000) (hs : ∀ n∈names,n.length≤1000000) (F F':Nat→Prop) (v v':Value) (w:World) (B:Nat) (hL:Laid w B) (h:l8 w F l v) (h':eF w F' names v') :
  Calls Tryz.prog 54 #[v,v'] w (fun e w'=>e = .returned (str (fT l names))∧ae [] w w'):=by
 have F6:=zh h;have HL:=zh hL;have Zc:=zh hf;have J3:=zh hs;obtain⟨a,c,rfl,hac,hrow,_⟩:=h;obtain⟨a',c',rfl,ah6,hrow'⟩:=h';have fH:=zh hrow;have Zd:=zh hrow';clear hrow hrow' hL hf hs
 go_enter Tryz.func54,Tryz.ntmps54
 go_wp2_with fail
 go_loopw [5,7,8,11] (fun s _ _ i wr=>∃ (k:Nat) (u:List UInt8),s=str u∧i = .int .i64 k∧k≤names.length∧ae [] w wr∧u=fT l (names.take k)∧u.length≤1000200 * k) (fun _ _ _ i _=>names.length - (intOf i).toNat)
 case atStart=>exact⟨0,[],rfl,rfl,Nat.zero_le _,ae.refl _ _,by simp [fT],by simp⟩
 case round=>
  obtain⟨k,u,rfl,rfl,hk,hc,hu,AA⟩:=hrel;have HC:=zh hc;have HU:=zh hu;clear hc hu;by_cases hlt : k < names.length
  ·obtain⟨n,hn'⟩ : ∃ n,names[k]?=some n:=⟨names[k],List.getElem?_eq_getElem hlt⟩
   have hnz:=J3.out n (List.mem_of_getElem? hn');obtain⟨b',o',rfl,hcell⟩:=Zd.out.at_ (by simp;omega);have hcl:=HC.out.aF (hcell k (str n) (by rw [List.getElem?_map,hn'];rfl)) (by simp);have iC:=zh (PR l hl n F _ wr (F6.out.kept HC.out (by simp)));have eZ:=zh (show fT l (names.take (k + 1))=fT l (names.take k) ++ kW l n by rw [List.take_add_one,hn'];simp [fT]);obtain⟨nb,hnb⟩ : ∃ t:ByteArray,t=bs n:=⟨_,rfl⟩
   have ah7 : nb.size≤1000000:=by rw [hnb];exact hnz
   obtain⟨ub,hub⟩ : ∃ t:ByteArray,t=bs u:=⟨_,rfl⟩
   have ah8 : ub.size≤1000200 * k:=by rw [hub];exact AA
   have oP:=zh hnb;have AB:=zh hub;clear hcell hn';cases hq : jB l n with
   | none=>
    have hfi : nP l n = -1:=by rw [nP,hq]
    rw [hfi] at iC;have HQ:=zh hq;clear hq hfi;have HV:=zh (show Value.string (bs u ++ (bs [110,111,110,101,32] ++ bs n ++ bs [10]))=str (u ++ kW l n) by rw [← oO,← oO,← oO,kW,HQ.out]);have jI:=zh (show (kW l n).length≤1000100 by rw [kW,HQ.out];simp;omega);go_wp2_with fail;refine iC.out.mono ?_;rintro _ w2 ⟨rfl,hq⟩;have aD:=zh (HC.out.then hq);clear hq;go_wp2_with fail;refine⟨⟨k + 1,u ++ kW l n,HV.out,by go_num,by omega,aD.out,by rw [eZ.out,HU.out],by have:=jI.out;simp;omega⟩,by simp [intOf];omega⟩
   | some j=>
    have hfi : nP l n=j:=by rw [nP,hq]
    have hjl:=PQ hq;rw [hfi] at iC;obtain⟨s,hs⟩ : ∃ s,l[j]?=some s:=⟨l[j],List.getElem?_eq_getElem hjl⟩
    have hnt : kW l n=jA s:=by
     rw [kW,hq]
     show jA (l.getD j Sy.none)=jA s
     rw [List.getD_eq_getElem?_getD,hs];rfl
    have FO:=zh hnt;have HS:=zh hs;have hfit:=Zc.out s (List.mem_of_getElem? hs);have yN:=zh hfit;have jI:=zh (Y5 hfit);clear hq hfi hnt hs hfit;go_wp2_with fail;refine iC.out.mono ?_;rintro _ w2 ⟨rfl,hq⟩;have aD:=zh (HC.out.then hq);clear hq;obtain⟨bb,off,rfl,d0,d1,d2⟩:=J2 (fH.out.kept aD.out (by simp)) HS.out;have kY:=zh (Y6 s yN.out w2 B (HL.out.kept aD.out (by simp)));obtain⟨t,ht⟩ : ∃ t:ByteArray,t=bs (jA s):=⟨_,rfl⟩
    have htz : t.size≤1000100:=by rw [ht];exact jI.out
    rw [show str (jA s) = .string t from congrArg Value.string ht.symm] at kY;have HV:=zh (show Value.string (bs u ++ t)=str (u ++ kW l n) by rw [ht,← oO,FO.out]);clear ht;go_wp2_with fail;refine kY.out.mono ?_;rintro _ w3 ⟨rfl,hq⟩;have bz:=zh (aD.out.then hq);clear hq;go_wp2_with fail;refine⟨⟨k + 1,u ++ kW l n,HV.out,by go_num,by omega,bz.out,by rw [eZ.out,HU.out],by have:=jI.out;rw [FO.out];simp;omega⟩,by simp [intOf];omega⟩
  ·have hke : k=names.length:=by omega
   have HR:=zh (show u=fT l names by rw [HU.out,hke,List.take_length]);go_wp2_with fail;go_ret
   exact⟨by rw [← HR.out];rfl,HC.out⟩
end Go.Proofs.YtechofppmnnomaaGreatDoor
namespace Go.Mq.Sym
open Go Go.RowKit Go.Mq Go.Mq.Tree
def PS (x:aX) (cs:List Value):Prop:=∃ (pos:Int) (a1:Option Addr) (k1:Nat) (a2:Option Addr) (n2 k2:Nat) (a3:Option Addr) (n3 k3:Nat),cs=[str x.name,.int .i64 pos,.bool x.seen,.slice a1 x.params.length k1,.slice a2 n2 k2,.slice a3 n3 k3]
def C8:List aX→List Value→Prop
 | [],cs=>cs=[]
 | x :: r,cs=>∃ c1 c2,cs=c1 ++ c2∧PS x c1∧C8 r c2
def rO (w:World) (F:Nat→Prop) (l:List aX) (v:Value):Prop:=∃ a c cs,v = .slice a l.length c∧l.length≤c∧Row w F a cs∧C8 l cs
theorem rO.kept {Z:List Nat} {w w':World} {F:Nat→Prop} {l:List aX} {v:Value} (h:rO w F l v) (hc:ae Z w w') (hS : ∀ x∈Z,¬ F x):rO w' F l v:=by
 obtain⟨a,c,cs,h1,h2,h3,h4⟩:=h;exact⟨a,c,cs,h1,h2,h3.kept hc hS,h4⟩
theorem PT {w:World} {F:Nat→Prop} : ∀ {l:List aX} {cs:List Value},kF w F l cs→C8 l cs
 | [],_,h=>h
 | x :: r,_,h=>by
  obtain⟨c1,c2,rfl,⟨_,_,_,rfl,⟨a1,k1,rfl,_⟩,⟨a2,k2,rfl,_⟩,⟨a3,k3,_,rfl,_⟩⟩,h2⟩:=h;exact⟨_,_,rfl,⟨x.pos,a1,k1,a2,_,k2,a3,_,k3,rfl⟩,PT h2⟩
theorem uQ {w:World} {F:Nat→Prop} {l:List aX} {v:Value} (h:oG w F l v):rO w F l v:=by
 obtain⟨a,c,cs,h1,h2,h3,h4⟩:=h;exact⟨a,c,cs,h1,h2,h3,PT h4⟩
theorem PU {w:World} {b:Nat} (v0 v1 v2 v3:Value) {u0 u1 u2 u3:Value} {t:TypeId} (h:ag w b #[u0,u1,u2,u3] t) : ∃ wF,((((w.setCell ⟨b,0,none⟩ v0).setCell ⟨b,1,none⟩ v1).setCell ⟨b,2,none⟩ v2).setCell ⟨b,3,none⟩ v3)=wF∧ae [b] w wF∧ag wF b #[v0,v1,v2,v3] t:=
 ⟨_,rfl,(((ae.set1 _ _ _ _).then (ae.set1 _ _ _ _)).then (ae.set1 _ _ _ _)).then (ae.set1 _ _ _ _),by
  have:=(((h.set 0 v0).set 1 v1).set 2 v2).set 3 v3
  simpa using this⟩
theorem F7 {w:World} {b:Nat} (v0 v1 v2 v3 v4 v5:Value) {u0 u1 u2 u3 u4 u5:Value} {t:TypeId} (h:ag w b #[u0,u1,u2,u3,u4,u5] t) : ∃ wF,((((((w.setCell ⟨b,0,none⟩ v0).setCell ⟨b,1,none⟩ v1).setCell ⟨b,2,none⟩ v2).setCell ⟨b,3,none⟩ v3).setCell ⟨b,4,none⟩ v4).setCell ⟨b,5,none⟩ v5)=wF∧ae [b] w wF∧ag wF b #[v0,v1,v2,v3,v4,v5] t:=
 ⟨_,rfl,(((((ae.set1 _ _ _ _).then (ae.set1 _ _ _ _)).then (ae.set1 _ _ _ _)).then (ae.set1 _ _ _ _)).then (ae.set1 _ _ _ _)).then (ae.set1 _ _ _ _),by
  have:=(((((h.set 0 v0).set 1 v1).set 2 v2).set 3 v3).set 4 v4).set 5 v5
  simpa using this⟩
theorem PW {w:World} {F:Nat→Prop} {a:Option Addr} {cs1 cs':List Value} {c0 c1 c2 c3:Value} {k:Nat} (h:Row w F a (cs1 ++ c0 :: c1 :: c2 :: c3 :: cs')) (hl : cs1.length=k * 4) :
  ∃ bb off,a=some ⟨bb,off,none⟩∧w.cell? ⟨bb,off + k * 4,none⟩=some c0∧w.cell? ⟨bb,off + k * 4 + 1,none⟩=some c1∧w.cell? ⟨bb,off + k * 4 + 2,none⟩=some c2∧w.cell? ⟨bb,off + k * 4 + 3,none⟩=some c3:=by
 obtain⟨bb,off,rfl,hc⟩:=h.at_ (by simp only [List.length_append,List.length_cons];omega);have g : ∀ i v,(c0 :: c1 :: c2 :: c3 :: cs')[i]?=some v→w.cell? ⟨bb,off + k * 4 + i,none⟩=some v:=fun i v hv=>by
  rw [Nat.add_assoc];refine hc (k * 4 + i) v ?_;rw [← hl,List.getElem?_append_right (by omega),Nat.add_sub_cancel_left];exact hv
 exact⟨bb,off,rfl,by simpa using g 0 _ rfl,g 1 _ rfl,g 2 _ rfl,g 3 _ rfl⟩
theorem yO {w:World} {F:Nat→Prop} {a:Option Addr} {cs1 cs':List Value} {c0 c1 c2 c3 c4 c5:Value} {k:Nat} (h:Row w F a (cs1 ++ c0 :: c1 :: c2 :: c3 :: c4 :: c5 :: cs')) (hl : cs1.length=k * 6) :
  ∃ bb off,a=some ⟨bb,off,none⟩∧w.cell? ⟨bb,off + k * 6,none⟩=some c0∧w.cell? ⟨bb,off + k * 6 + 1,none⟩=some c1∧w.cell? ⟨bb,off + k * 6 + 2,none⟩=some c2∧w.cell? ⟨bb,off + k * 6 + 3,none⟩=some c3∧w.cell? ⟨bb,off + k * 6 + 4,none⟩=some c4∧w.cell? ⟨bb,off + k * 6 + 5,none⟩=some c5:=by
 obtain⟨bb,off,rfl,hc⟩:=h.at_ (by simp only [List.length_append,List.length_cons];omega);have g : ∀ i v,(c0 :: c1 :: c2 :: c3 :: c4 :: c5 :: cs')[i]?=some v→w.cell? ⟨bb,off + k * 6 + i,none⟩=some v:=fun i v hv=>by
  rw [Nat.add_assoc];refine hc (k * 6 + i) v ?_;rw [← hl,List.getElem?_append_right (by omega),Nat.add_sub_cancel_left];exact hv
 exact⟨bb,off,rfl,by simpa using g 0 _ rfl,g 1 _ rfl,g 2 _ rfl,g 3 _ rfl,g 4 _ rfl,g 5 _ rfl⟩
theorem gQ.row {w:World} {g:Nat} {l:List Sy} {F:Nat→Prop} (h:gQ w g l) (hF:F g):Row w F (some ⟨g,0,none⟩) (l.flatMap Sy.cells):=by
 refine⟨fun _=>⟨g,0,rfl,fun i x hx=>?_⟩,fun _ p hp=>by cases hp;exact hF⟩;have key : ∀ (l:List Sy) (i:Nat) (x:Value),(l.flatMap Sy.cells)[i]?=some x → ∃ k s,l[k]?=some s ∧ ∃ j,j < 3∧i=k * 3 + j∧s.cells[j]?=some x:=by
  intro l
  induction l with
  | nil=>intro i x hx;simp at hx
  | cons y r ih=>
   intro i x hx;rw [List.flatMap_cons] at hx;by_cases hi : i < 3
   ·rw [List.getElem?_append_left (by simp [Sy.cells];omega)] at hx
    exact⟨0,y,rfl,i,hi,by omega,hx⟩
   ·rw [List.getElem?_append_right (by simp [Sy.cells];omega)] at hx
    obtain⟨k,s,hk,j,hj,he,hs⟩:=ih _ x hx;exact⟨k + 1,s,by simpa using hk,j,hj,by simp [Sy.cells] at he;omega,hs⟩
 obtain⟨k,s,hk,j,hj,rfl,hs⟩:=key l i x hx;obtain⟨c0,c1,c2⟩:=h.cells hk;rw [Nat.zero_add]
 match j,hj with
 | 0,_=>simp [Sy.cells] at hs;subst hs;exact c0
 | 1,_=>simp [Sy.cells] at hs;subst hs;exact c1
 | 2,_=>simp [Sy.cells] at hs;subst hs;exact c2
theorem PX {g:bJ} {r:List bJ} {L:List Sy} {T:List Sy} (h:L ++ ((g :: r).filter (·.seen)).map pX=T) : (if g.seen then L ++ [pX g] else L) ++ (r.filter (·.seen)).map pX=T:=by
 rw [← h,List.filter_cons];split <;> simp
theorem PY {g:aX} {r:List aX} {L:List Sy} {T:List Sy} (h:L ++ ((g :: r).filter (·.seen)).map tF=T) : (if g.seen then L ++ [tF g] else L) ++ (r.filter (·.seen)).map tF=T:=by
 rw [← h,List.filter_cons];split <;> simp
end Go.Mq.Sym
namespace Go.Proofs.YtechofppmnnomaaGreatDoor
open Go Go.RowKit Go.Mq Go.Mq.Tree Go.Mq.Sym
set_option maxRecDepth 100000
set_option maxHeartbeats 4000000
theorem PZ : (Tryz.prog.info? 185).map (fun i=>(i.zero,i.size,i.bytes))=some (some (.agg #[.string ⟨#[]⟩,.int .i64 0,.int .i64 0]),3,32):=by kernel_rfl
theorem P5 (vs:List bJ) (ps:List aX) (hvs : vs.length≤10) (hps : ps.length≤10) (F:Nat→Prop) (nm:List UInt8) (x1:Option Addr) (y1 z1:Nat) (x4:Option Addr) (y4 z4:Nat) (vv vp:Value) (w:World) (hgv:lJ w F vs vv) (hpv:rO w F ps vp) :
  Calls Tryz.prog 52 #[.agg #[str nm,.slice x1 y1 z1,vv,vp,.slice x4 y4 z4]] w (fun e w'=>∃ v,e = .returned v∧l8 w' (New w w') (rM (uO vs ps)) v∧ae [] w w'):=by
 obtain⟨av,cv,rfl,ah9,P6⟩:=hgv;obtain⟨ap,cp,tJ,rfl,hpv1,hpv2,P7⟩:=hpv;obtain⟨w0,hw0⟩ : ∃ w0,w.alloc (.cells #[str nm,.slice x1 y1 z1,.slice av vs.length cv,.slice ap ps.length cp,.slice x4 y4 z4] 32)=w0:=⟨_,rfl⟩
 have hbX:=ag.new w #[str nm,.slice x1 y1 z1,.slice av vs.length cv,.slice ap ps.length cp,.slice x4 y4 z4] 32;have iX:ae [] w w0:=by rw [← hw0];exact(ae.refl _ _).alloc _
 have hsX : w0.heap.size=w.heap.size + 1:=by rw [← hw0];simp
 rw [hw0] at hbX;have e0:=hbX.cell 0 _ rfl;have e1:=hbX.cell 1 _ rfl;have e2:=hbX.cell 2 _ rfl;have e3:=hbX.cell 3 _ rfl;have e4:=hbX.cell 4 _ rfl;have HX:=zh hbX;have yP:=zh iX;have F8:=zh (P6.kept iX (by simp));have F9:=zh (hpv2.kept iX (by simp));have mV:=zh P7;clear hbX iX P6 hpv2 P7
 go_enter Tryz.func52,Tryz.ntmps52
 go_wp2_with fail;clear hw0 e0 e1 e2 e3 e4
 go_loopw [3,5,11] (fun lv _ i wr=>∃ (k:Nat) (rest:List bJ) (L:List Sy) (cs1:List Value),i = .int .i64 k∧k + rest.length=vs.length∧vs.flatMap bJ.cells=cs1 ++ rest.flatMap bJ.cells∧cs1.length=k * 4∧L.length≤k∧ae [] w0 wr∧wr.ownsRow 0 185 3 lv L.length (L.flatMap Sy.cells)∧From w0.heap.size lv∧L ++ (rest.filter (·.seen)).map pX=(vs.filter (·.seen)).map pX) (fun _ _ i _=>vs.length - (intOf i).toNat)
 case atStart=>exact⟨0,vs,[],[],rfl,by simp,rfl,rfl,Nat.le_refl _,ae.refl _ _,World.ownsRow_nil _ _ _ _,From.nil _,rfl⟩
 case round=>
  obtain⟨k,rest,L,cs1,rfl,hk,j4,hl1,hLk,hc,ho,hf,hT⟩:=hrel;have HC:=zh hc;have HO:=zh ho;have HF:=zh hf;have HT:=zh hT;clear hc ho hf hT;cases rest with
  | nil=>
   have hke : ¬ k < vs.length:=by simp at hk;omega
   have xc : (vs.filter (·.seen)).map pX=L:=by have:=HT.out;simpa using this.symm
   have jI:=zh xc;have hbX:=HX.out.kept HC.out (by simp);have e0:=hbX.cell 0 _ rfl;have e1:=hbX.cell 1 _ rfl;have e2:=hbX.cell 2 _ rfl;have e3:=hbX.cell 3 _ rfl;have e4:=hbX.cell 4 _ rfl;have Ze:L.length≤vs.length:=by simp at hk;omega
   clear hbX j4 xc;go_wp2_with fail;clear e0 e1 e2 e3 e4;have hce : ∀ x,L ++ x=(vs.filter (·.seen)).map pX ++ x:=fun x=>by rw [jI.out]
   have fK:=zh hce;clear hce HT
   go_loopw [3,7,29] (fun lv _ i wr=>∃ (k:Nat) (rest:List aX) (M:List Sy) (cs1 cs2:List Value),i = .int .i64 k∧k + rest.length=ps.length∧tJ=cs1 ++ cs2∧cs1.length=k * 6∧C8 rest cs2∧M.length≤vs.length + k∧ae [] w0 wr∧wr.ownsRow 0 185 3 lv M.length (M.flatMap Sy.cells)∧From w0.heap.size lv∧M ++ (rest.filter (·.seen)).map tF=uO vs ps) (fun _ _ i _=>ps.length - (intOf i).toNat)
   case atStart=>exact⟨0,ps,L,[],tJ,rfl,by simp,rfl,rfl,mV.out,by omega,HC.out,HO.out,HF.out,by rw [uO,fK.out]⟩
   case round=>
    clear fK jI HO HF HC hLk Ze hl1 hk hke;obtain⟨k,rest,L,cs1,cs2,rfl,hk,j4,hl1,hpl,hLk,hc,ho,hf,hT⟩:=hrel;have HC:=zh hc;have HO:=zh ho;have HF:=zh hf;have HT:=zh hT;clear hc ho hf hT;cases rest with
    | nil=>
     have hke : ¬ k < ps.length:=by simp at hk;omega
     have xc : uO vs ps=L:=by have:=HT.out;simpa using this.symm
     have jI:=zh xc;have Zf:L.length≤20:=by simp at hk;omega
     have hsz0:=HC.out.size;clear j4 hpl xc;rcases gQ.jU HO.out with⟨hlv,hnil⟩|⟨g,c,hlv,hlc,hsy⟩
     ·have Zg:=zh hnil
      subst hlv;clear hnil;have HST:=zh (YC wr);go_wp2_with fail;refine HST.out.mono ?_;rintro _ _ ⟨rfl,hw⟩;have hw:=hw.symm;subst hw;go_wp2_with fail;go_ret
      refine⟨_,rfl,?_,yP.out.then HC.out⟩;rw [jI.out,Zg.out];exact⟨none,0,rfl,Nat.le_refl _,Row.nil _ _ _,fun _=>rfl⟩
     ·have hg0 : w0.heap.size≤g:=HF.out g (by rw [hlv];simp [blk])
      subst hlv;have HST:=zh (YB g L c Zf wr hsy);clear hsy;go_wp2_with fail;refine HST.out.mono ?_;rintro _ w5 ⟨rfl,hb5,bH⟩;have qN:=zh hb5;have cO:=zh bH;clear hb5 bH;go_wp2_with fail;go_ret
      have Zh:=qN.out.lt;refine⟨_,rfl,?_,(yP.out.then HC.out).trans cO.out (fun x hx=>.inr (by simp at hx;omega))⟩;rw [jI.out];exact⟨_,c,by rw [JS];rfl,by rw [JS];exact hlc,qN.out.row ⟨by omega,Zh⟩,fun h=>by cases h⟩
    | cons x r=>
     obtain⟨xn,xp,P8,tK,xvs,xb⟩:=x;obtain⟨_,cs',rfl,⟨pos,a1,k1,a2,n2,k2,a3,n3,k3,rfl⟩,hpl'⟩:=hpl;have HR:=zh hpl';have hlt : k < ps.length:=by simp at hk;omega
     simp only [List.cons_append,List.nil_append] at j4;have C9:=zh j4;clear hpl';have hxl : tK.length≤1000000∨True:=.inr trivial;have hrw:=F9.out.kept HC.out (by simp);rw [j4] at hrw;obtain⟨bb,off,rfl,d0,d1,d2,d3,d4,d5⟩:=yO hrw hl1;have hz:=ag.new wr #[str [],.int .i64 0,.bool false,ah,ah,ah] 72;obtain⟨wA,ay⟩ : ∃ wA,wr.alloc (.cells #[str [],.int .i64 0,.bool false,ah,ah,ah] 72)=wA:=⟨_,rfl⟩
     rw [ay] at hz;have hcA:ae [] wr wA:=by rw [← ay];exact(ae.refl _ _).alloc _
     obtain⟨wF,hwF,aZ,aG⟩:=F7 (str xn) (.int .i64 pos) (.bool P8) (.slice a1 tK.length k1) (.slice a2 n2 k2) (.slice a3 n3 k3) hz;have hcw:ae [] wr wF:=hcA.trans aZ (fun x hx=>.inr (by simp at hx;omega));have g0:=hcA.aF d0 (by simp);have g1:=hcA.aF d1 (by simp);have g2:=hcA.aF d2 (by simp);have g3:=hcA.aF d3 (by simp);have g4:=hcA.aF d4 (by simp);have g5:=hcA.aF d5 (by simp);have z0:=hz.cell 0 _ rfl;have z1:=hz.cell 1 _ rfl;have z2:=hz.cell 2 _ rfl;have z3:=hz.cell 3 _ rfl;have z4:=hz.cell 4 _ rfl;have z5:=hz.cell 5 _ rfl;have y0:=hz.frozen 0;have y1:=hz.frozen 1;have y2:=hz.frozen 2;have y3:=hz.frozen 3;have y4:=hz.frozen 4;have y5:=hz.frozen 5;have b0:=aG.cell 0 _ rfl;have b1:=aG.cell 1 _ rfl;have b2:=aG.cell 2 _ rfl;have b3:=aG.cell 3 _ rfl;have b4:=aG.cell 4 _ rfl;have b5:=aG.cell 5 _ rfl;have dM:=zh (HC.out.then hcw);have Zi:=hcw.size;have hsz0:=HC.out.size;have nQ:=zh (cK HO.out hcw (by simp));clear hrw hcA aZ aG hcw hz j4;cases hgs : P8 with
     | false=>
      subst hgs;go_wp2_with fail;exact⟨⟨k + 1,r,L,cs1 ++ [str xn,.int .i64 pos,.bool false,.slice a1 tK.length k1,.slice a2 n2 k2,.slice a3 n3 k3],cs',by go_num,by simp at hk;omega,by rw [C9.out];simp,by simp [hl1];omega,HR.out,by omega,dM.out,nQ.out,HF.out,by have e:=PY HT.out;simpa using e⟩,by simp [intOf];omega⟩
     | true=>
      subst hgs;have uK:=zh (cK nQ.out ((ae.refl [] wF).alloc (.cells #[str xn,.int .i64 0,.int .i64 (tK.length:Int)] 185)) (by simp));go_wp2_with (at_builtin;go_must (refine pO rfl _ _ 120 rfl 185 _ 3 32 PZ Tryz.underlying120 rfl (by decide) _ _ _ rfl uK.out ⟨wF.heap.size,0,none⟩ 1 1 (Sy.cells (⟨xn,0,(tK.length:Int)⟩ : Sy)) rfl rfl (uL _ _ _) (by simp [Sy.cells,Value.oneCell']) ?_ ?_ ?_))
      ·omega
      ·unfold maxLen;omega
      ·intro v' w' hown' hch' cz
       have hf3:=HF.out.moved cz (by simp;omega);have pY:=zh hf3;have bz:=zh ((dM.out.alloc (.cells #[str xn,.int .i64 0,.int .i64 (tK.length:Int)] 185)).trans hch' (fun x hx=>.inr (HF.out x hx)));have Da:=zh (show w'.ownsRow 0 185 3 v' (L ++ [(⟨xn,0,(tK.length:Int)⟩ : Sy)]).length ((L ++ [(⟨xn,0,(tK.length:Int)⟩ : Sy)]).flatMap Sy.cells) by simpa [List.flatMap_append] using hown');clear hown' hch' cz hf3;go_wp2_with fail;exact⟨⟨k + 1,r,L ++ [(⟨xn,0,(tK.length:Int)⟩ : Sy)],cs1 ++ [str xn,.int .i64 pos,.bool true,.slice a1 tK.length k1,.slice a2 n2 k2,.slice a3 n3 k3],cs',by go_num,by simp at hk;omega,by rw [C9.out];simp,by simp [hl1];omega,HR.out,by simp;omega,bz.out,Da.out,pY.out,by have e:=PY HT.out;simpa [pX,tF] using e⟩,by simp [intOf];omega⟩
  | cons g r=>
   obtain⟨gn,gp,gl,gs⟩:=g;have hlt : k < vs.length:=by simp at hk;omega
   simp only [List.flatMap_cons,bJ.cells,List.cons_append,List.nil_append] at j4;have C9:=zh j4;have hrw:=F8.out.kept HC.out (by simp);rw [j4] at hrw;obtain⟨bb,off,rfl,d0,d1,d2,d3⟩:=PW hrw hl1;have hz:=ag.new wr #[str [],.int .i64 0,.int .i64 0,.bool false] 68;obtain⟨wA,ay⟩ : ∃ wA,wr.alloc (.cells #[str [],.int .i64 0,.int .i64 0,.bool false] 68)=wA:=⟨_,rfl⟩
   rw [ay] at hz;have hcA:ae [] wr wA:=by rw [← ay];exact(ae.refl _ _).alloc _
   obtain⟨wF,hwF,aZ,aG⟩:=PU (str gn) (.int .i64 gp) (.int .i64 gl) (.bool gs) hz;have hcw:ae [] wr wF:=hcA.trans aZ (fun x hx=>.inr (by simp at hx;omega));have g0:=hcA.aF d0 (by simp);have g1:=hcA.aF d1 (by simp);have g2:=hcA.aF d2 (by simp);have g3:=hcA.aF d3 (by simp);have z0:=hz.cell 0 _ rfl;have z1:=hz.cell 1 _ rfl;have z2:=hz.cell 2 _ rfl;have z3:=hz.cell 3 _ rfl;have y0:=hz.frozen 0;have y1:=hz.frozen 1;have y2:=hz.frozen 2;have y3:=hz.frozen 3;have b0:=aG.cell 0 _ rfl;have b1:=aG.cell 1 _ rfl;have b2:=aG.cell 2 _ rfl;have b3:=aG.cell 3 _ rfl;have dM:=zh (HC.out.then hcw);have Zi:=hcw.size;have hsz0:=HC.out.size;have nQ:=zh (cK HO.out hcw (by simp));clear hrw hcA aZ aG hcw hz j4;cases hgs : gs with
   | false=>
    subst hgs;go_wp2_with fail;exact⟨⟨k + 1,r,L,cs1 ++ [str gn,.int .i64 gp,.int .i64 gl,.bool false],by go_num,by simp at hk;omega,by rw [C9.out];simp,by simp [hl1];omega,by omega,dM.out,nQ.out,HF.out,by have e:=PX HT.out;simpa using e⟩,by simp [intOf];omega⟩
   | true=>
    subst hgs;have uK:=zh (cK nQ.out ((ae.refl [] wF).alloc (.cells #[str gn,.int .i64 gl,.int .i64 (-1)] 185)) (by simp));go_wp2_with (at_builtin;go_must (refine pO rfl _ _ 120 rfl 185 _ 3 32 PZ Tryz.underlying120 rfl (by decide) _ _ _ rfl uK.out ⟨wF.heap.size,0,none⟩ 1 1 (Sy.cells (⟨gn,gl,-1⟩ : Sy)) rfl rfl (uL _ _ _) (by simp [Sy.cells,Value.oneCell']) ?_ ?_ ?_))
    ·omega
    ·unfold maxLen;omega
    ·intro v' w' hown' hch' cz
     have hf3:=HF.out.moved cz (by simp;omega);have pY:=zh hf3;have bz:=zh ((dM.out.alloc (.cells #[str gn,.int .i64 gl,.int .i64 (-1)] 185)).trans hch' (fun x hx=>.inr (HF.out x hx)));have Da:=zh (show w'.ownsRow 0 185 3 v' (L ++ [(⟨gn,gl,-1⟩ : Sy)]).length ((L ++ [(⟨gn,gl,-1⟩ : Sy)]).flatMap Sy.cells) by simpa [List.flatMap_append] using hown');clear hown' hch' cz hf3;go_wp2_with fail;exact⟨⟨k + 1,r,L ++ [(⟨gn,gl,-1⟩ : Sy)],cs1 ++ [str gn,.int .i64 gp,.int .i64 gl,.bool true],by go_num,by simp at hk;omega,by rw [C9.out];simp,by simp [hl1];omega,by simp;omega,bz.out,Da.out,pY.out,by have e:=PX HT.out;simpa [pX,tF] using e⟩,by simp [intOf];omega⟩
end Go.Proofs.YtechofppmnnomaaGreatDoor
namespace Go.Mq.Sym
open Go Go.RowKit Go.Mq Go.Mq.Tree
theorem P9 {l:List Sy} {k:Nat} (h : k < l.length) : l.getD k Sy.none∈l:=by
 rw [List.getD_eq_getElem?_getD,List.getElem?_eq_getElem h];exact List.getElem_mem h
theorem Qa {x:Sy} : ∀ (k:Nat) (l:List Sy),k < l.length→x∈nO k l→x∈l
 | 0,_,_,h=>h
 | k + 1,l,hk,h=>by
  rw [nO] at h;split at h
  ·have h1:=Qa k _ (by simp;omega) h
   rcases List.mem_or_eq_of_mem_set h1 with h2|h2
   ·rcases List.mem_or_eq_of_mem_set h2 with h3|h3
    ·exact h3
    ·rw [h3];exact P9 (by omega)
   ·rw [h2];exact P9 hk
  ·exact h
theorem Qb {x:Sy} : ∀ (d i n:Nat) (l:List Sy),n - i≤d→n≤l.length→x∈tC i n l→x∈l
 | 0,i,n,l,h,_,hx=>by rwa [CU (by omega)] at hx
 | d + 1,i,n,l,h,hn,hx=>by
  by_cases hi : i < n
  ·rw [F3 hi] at hx
   exact Qa i l (by omega) (Qb d (i + 1) n _ (by omega) (by rw [JR];exact hn) hx)
  ·rwa [CU (by omega)] at hx
theorem Qc {x:Sy} {l:List Sy} (h : x∈rM l) : x∈l:=Qb _ 1 l.length l (Nat.le_refl _) (Nat.le_refl _) h
theorem Zj {vs:List bJ} {ps:List aX} (hv : ∀ g∈vs,CK g) (hp : ∀ x∈ps,Av x) : ∀ x∈rM (uO vs ps),x.fit:=by
 intro x hx;have h:=Qc hx;simp only [uO,List.mem_append,List.mem_map,List.mem_filter] at h;rcases h with⟨g,⟨hg,_⟩,rfl⟩|⟨p,⟨hg,_⟩,rfl⟩
 ·have:=hv g hg
  exact⟨by have:=this.name.2.2;show g.name.length≤_;omega,this.low,by have:=this.high;show g.len≤_;omega,by show (-1:Int) ≤ -1;omega,by show (-1:Int)≤_;omega⟩
 ·have:=hp p hg
  exact⟨by have:=this.name.2.2;show p.name.length≤_;omega,by show (0:Int)≤0;omega,by show (0:Int)≤_;omega,by show (-1:Int)≤(p.params.length:Int);omega,by have:=this.few;show (p.params.length:Int)≤_;omega⟩
theorem Qd {vs:List bJ} {ps:List aX} (hv : vs.length≤10) (hp : ps.length≤10) : (rM (uO vs ps)).length≤20:=by
 rw [JS,uO,List.length_append,List.length_map,List.length_map];have h1:=List.length_filter_le (fun g:bJ=>g.seen) vs;have h2:=List.length_filter_le (fun g:aX=>g.seen) ps;omega
abbrev Holds (w:World) (e:Ending) (w':World):Prop:=e = .returned (.bool true)∧ae [] w w'
end Go.Mq.Sym
namespace Go.Mq.Sym
open Go Go.RowKit Go.Mq Go.Mq.Tree
theorem Gb {w:World} {F:Nat→Prop} {m:Mod} {v:Value} (h:kG w F m v) : ∃ (ai:Option Addr) (ci:Nat) (av:Option Addr) (cv:Nat) (ap:Option Addr) (cp:Nat) (ab:Option Addr) (cb:Nat),v = .agg #[str m.name,.slice ai m.imports.length ci,.slice av m.vars.length cv,.slice ap m.procs.length cp,.slice ab m.body.len cb]∧lJ w F m.vars (.slice av m.vars.length cv)∧rO w F m.procs (.slice ap m.procs.length cp):=by
 obtain⟨vi,vv,vp,vb,rfl,⟨ai,ci,rfl,_⟩,⟨av,cv,rfl,h1,h2⟩,hp,⟨ab,cb,_,rfl,_⟩⟩:=h;have hp':=uQ hp;obtain⟨ap,cp,cs,rfl,h3,h4,h5⟩:=hp';exact⟨ai,ci,av,cv,ap,cp,ab,cb,rfl,⟨av,cv,rfl,h1,h2⟩,⟨ap,cp,cs,rfl,h3,h4,h5⟩⟩
end Go.Mq.Sym
namespace Go.Mq.Sym
open Go Go.RowKit Go.Mq Go.Mq.Tree
theorem xe {w:World} {F:Nat→Prop} {a:Option Addr} {l:List (List UInt8)} (h:Row w F a (l.map str)) {k:Nat} {n:List UInt8} (hk : l[k]?=some n) : ∃ b o,a=some ⟨b,o,none⟩∧w.cell? ⟨b,o + k,none⟩=some (str n):=by
 obtain⟨b,o,rfl,hc⟩:=h.at_ (by have:=(List.getElem?_eq_some_iff.1 hk).1;simp;omega);exact⟨b,o,rfl,hc k (str n) (by rw [List.getElem?_map,hk];rfl)⟩
end Go.Mq.Sym
namespace Go.Proofs.YtechofppmnnomaaGreatDoor
open Go Go.RowKit Go.Mq Go.Mq.Tree Go.Mq.Sym
set_option maxRecDepth 100000
set_option maxHeartbeats 2000000
end Go.Proofs.YtechofppmnnomaaGreatDoor
