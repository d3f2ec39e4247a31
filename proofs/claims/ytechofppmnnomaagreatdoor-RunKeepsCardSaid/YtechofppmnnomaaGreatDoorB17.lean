/- Some texts in one. -/
import Derived.Lib.ItoaLen
import Derived.Test.YtechofppmnnomaaGreatDoorB10
import Derived.Test.YtechofppmnnomaaGreatDoorB11
import Derived.Test.YtechofppmnnomaaGreatDoorB13
import Derived.Test.YtechofppmnnomaaGreatDoorB16
namespace Go.Mq.Sym
open Go Go.RowKit Go.Mq Go.Mq.Tree
structure Sy.fit (s:Sy):Prop where
 name : s.name.length≤1000000
 YE : 0≤s.len
 YF : s.len≤1000000
 YG : -1≤s.args
 JO : s.args≤1000000
theorem YH {s:Sy} (h : s.fit) : (jq s).length≤1000100:=by
 have h1:=Lib.itoa_length_le s.args (by have:=h.YG;omega) (by have:=h.JO;omega);have h2:=Lib.itoa_length_le s.len (by have:=h.YE;omega) (by have:=h.YF;omega);have h3:=h.name;rw [jq];split
 ·simp;omega
 ·split <;> simp <;> omega
def lY (w:World) (F:Nat→Prop) (l:List Sy) (v:Value):Prop:=∃ a c,v = .slice a l.length c∧l.length≤c∧Row w F a (l.flatMap Sy.cells)∧(a=none→c=0)
theorem lY.kept {Z:List Nat} {w w':World} {F:Nat→Prop} {l:List Sy} {v:Value} (h:lY w F l v) (hc:ae Z w w') (hS : ∀ x∈Z,¬ F x):lY w' F l v:=by
 obtain⟨a,c,h1,h2,h3,h4⟩:=h;exact⟨a,c,h1,h2,h3.kept hc hS,h4⟩
theorem lY.mono {w:World} {F G:Nat→Prop} {l:List Sy} {v:Value} (h:lY w F l v) (hF : ∀ x,F x→G x):lY w G l v:=by
 obtain⟨a,c,h1,h2,h3,h4⟩:=h;exact⟨a,c,h1,h2,h3.mono hF,h4⟩
theorem JP {w:World} {F:Nat→Prop} {a:Option Addr} {l:List Sy} (h:Row w F a (l.flatMap Sy.cells)) {k:Nat} {s:Sy} (hk : l[k]?=some s) :
  ∃ bb off,a=some ⟨bb,off,none⟩∧w.cell? ⟨bb,off + k * 3,none⟩=some (str s.name)∧w.cell? ⟨bb,off + k * 3 + 1,none⟩=some (.int .i64 s.len)∧w.cell? ⟨bb,off + k * 3 + 2,none⟩=some (.int .i64 s.args):=by
 have hkl : k < l.length:=(List.getElem?_eq_some_iff.1 hk).1;have key : ∀ (l:List Sy) (k:Nat),l[k]?=some s → ∀ i,i < 3→(l.flatMap Sy.cells)[k * 3 + i]?=s.cells[i]?:=by
  intro l
  induction l with
  | nil=>intro k hk;simp at hk
  | cons x r ih=>
   intro k hk i hi;rw [List.flatMap_cons];cases k with
   | zero=>
    simp at hk
    subst hk;rw [List.getElem?_append_left (by simp [Sy.cells];omega)];simp
   | succ k=>
    rw [List.getElem?_append_right (by simp [Sy.cells];omega),show (k + 1) * 3 + i - x.cells.length=k * 3 + i by simp [Sy.cells];omega];exact ih k (by simpa using hk) i hi
 obtain⟨bb,off,rfl,hc⟩:=h.at_ (by
  have h1:=key l k hk 0 (by omega);have h2:=(List.getElem?_eq_some_iff.1 (h1.trans (show s.cells[0]?=some (.string (bs s.name)) from rfl))).1;omega)
 refine⟨bb,off,rfl,?_,?_,?_⟩
 ·have:=hc (k * 3 + 0) (str s.name) (by rw [key l k hk 0 (by omega)];rfl);simpa using this
 ·have:=hc (k * 3 + 1) (.int .i64 s.len) (by rw [key l k hk 1 (by omega)];rfl);rwa [← Nat.add_assoc] at this
 ·have:=hc (k * 3 + 2) (.int .i64 s.args) (by rw [key l k hk 2 (by omega)];rfl);rwa [← Nat.add_assoc] at this
theorem CU {w:World} {b:Nat} (v0 v1 v2:Value) {u0 u1 u2:Value} {t:TypeId} (h:ag w b #[u0,u1,u2] t) : ∃ wF,(((w.setCell ⟨b,0,none⟩ v0).setCell ⟨b,1,none⟩ v1).setCell ⟨b,2,none⟩ v2)=wF∧ae [b] w wF∧ag wF b #[v0,v1,v2] t:=
 ⟨_,rfl,((ae.set1 _ _ _ _).then (ae.set1 _ _ _ _)).then (ae.set1 _ _ _ _),by
  have:=((h.set 0 v0).set 1 v1).set 2 v2
  simpa using this⟩
end Go.Mq.Sym
namespace Go.Proofs.YtechofppmnnomaaGreatDoor
open Go Go.RowKit Go.Mq Go.Mq.Tree Go.Mq.Sym
set_option maxRecDepth 100000
set_option maxHeartbeats 2000000
theorem YI (s:Sy) (hf : s.fit) (w:World) (B:Nat) (hL:Laid w B):Calls Tryz.prog 97 #[.agg #[str s.name,.int .i64 s.len,.int .i64 s.args]] w (fun e w'=>e = .returned (str (jq s))∧ae [] w w'):=by
 obtain⟨hn,hl0,hl1,ha0,ha1⟩:=hf;obtain⟨nm,hnm⟩ : ∃ n:ByteArray,n=bs s.name:=⟨_,rfl⟩
 have hnz : nm.size≤1000000:=by rw [hnm];exact hn
 have lW:=zh hnm
 change Calls _ _ #[.agg #[.string (bs s.name),.int .i64 s.len,.int .i64 s.args]] _ _
 rw [← hnm];obtain⟨wA,az⟩ : ∃ wA,w.alloc (.cells #[.string nm,.int .i64 s.len,.int .i64 s.args] 185)=wA:=⟨_,rfl⟩
 have pV:=ag.new w #[.string nm,.int .i64 s.len,.int .i64 s.args] 185;have hcA:ae [] w wA:=by rw [← az];exact(ae.refl _ _).alloc _
 rw [az] at pV;have x0:=pV.cell 0 _ rfl;have x1:=pV.cell 1 _ rfl;have x2:=pV.cell 2 _ rfl;have HC:=zh hcA;have HB:=zh pV;have dW:=zh (show w.heap.size < wA.drew.heap.size from pV.lt);have HZ:=zh (bZ.of (X:=[]) (w0:=wA.drew) (off:=0) (b:=w.heap.size) x0 (by simp));have HDR:=zh (hcA.drew);have HIT:=zh (fun(n:Int) (h0 : 0≤n) (h1 : n≤9223372036854775807) (w':World) (hc:ae [] w w')=>YC n h0 h1 w' B (hL.kept hc (by simp)));clear hcA pV hL hnm hn;by_cases h0 : 0≤s.args
 ·obtain⟨t,ht⟩ : ∃ t:ByteArray,t=bs (Lib.itoa s.args):=⟨_,rfl⟩
  have htz : t.size≤21:=by rw [ht];exact Lib.itoa_length_le s.args (by omega) (by omega)
  have HR:=zh (show bs (jq s)=bs [112,114,111,99,32] ++ nm ++ bs [32] ++ t ++ bs [10] by rw [jq,if_pos h0,oK,oK,oK,oK,← lW.out,← ht]);have HI:=zh (show ∀ w',ae [] w w'→Calls Tryz.prog 61 #[.int .i64 s.args] w' (fun e w''=>e = .returned (.string t)∧ae [] w' w'') from fun w' hc=>by rw [ht];exact HIT.out s.args h0 (by omega) w' hc);clear ht
  go_enter Tryz.func97,Tryz.ntmps97
  go_wp2_with fail;refine kT [] rfl (by kernel_rfl) ?_;have hS:ae [] wA.drew wA.drew:=ae.refl _ _
  repeat ((with_reducible refine gX ?_);(first|refine aM ?_|refine sK ?_|refine sM fun _ _=>?_|refine sL fun _ _=>?_|refine sE fun _ _=>?_);go_wp2_with fail)
  refine(HI.out _ (HDR.out.then hS)).mono ?_;rintro _ wj ⟨rfl,hw⟩;have hS:=hS.then hw;clear hw
  go_wp2_with fail;refine And.intro hS ?_
  repeat ((with_reducible refine gX ?_);(first|refine aM ?_|refine sK ?_|refine sM fun _ _=>?_|refine sL fun _ _=>?_|refine sE fun _ _=>?_);go_wp2_with fail)
  have HE:=zh (HDR.out.then hS);go_ret
  exact⟨congrArg (fun t=>Ending.returned (Value.string t)) HR.out.symm,HE.out⟩
 ·by_cases h1 : 0 < s.len
  ·obtain⟨t,ht⟩ : ∃ t:ByteArray,t=bs (Lib.itoa s.len):=⟨_,rfl⟩
   have htz : t.size≤21:=by rw [ht];exact Lib.itoa_length_le s.len (by omega) (by omega)
   have HR:=zh (show bs (jq s)=bs [97,114,114,97,121,32] ++ nm ++ bs [32] ++ t ++ bs [10] by rw [jq,if_neg h0,if_pos h1,oK,oK,oK,oK,← lW.out,← ht]);have HI:=zh (show ∀ w',ae [] w w'→Calls Tryz.prog 61 #[.int .i64 s.len] w' (fun e w''=>e = .returned (.string t)∧ae [] w' w'') from fun w' hc=>by rw [ht];exact HIT.out s.len hl0 (by omega) w' hc);clear ht
   go_enter Tryz.func97,Tryz.ntmps97
   go_wp2_with fail;refine kT [] rfl (by kernel_rfl) ?_;have hS:ae [] wA.drew wA.drew:=ae.refl _ _
   repeat ((with_reducible refine gX ?_);(first|refine aM ?_|refine sK ?_|refine sM fun _ _=>?_|refine sL fun _ _=>?_|refine sE fun _ _=>?_);go_wp2_with fail)
   refine(HI.out _ (HDR.out.then hS)).mono ?_;rintro _ wj ⟨rfl,hw⟩;have hS:=hS.then hw;clear hw
   go_wp2_with fail;refine And.intro hS ?_
   repeat ((with_reducible refine gX ?_);(first|refine aM ?_|refine sK ?_|refine sM fun _ _=>?_|refine sL fun _ _=>?_|refine sE fun _ _=>?_);go_wp2_with fail)
   have HE:=zh (HDR.out.then hS);go_ret
   exact⟨congrArg (fun t=>Ending.returned (Value.string t)) HR.out.symm,HE.out⟩
  ·have HR:=zh (show bs (jq s)=bs [105,110,116,32] ++ nm ++ bs [10] by rw [jq,if_neg h0,if_neg h1,oK,oK,← lW.out])
   have h0' : s.args < 0:=by omega
   have h1' : ¬ 0 < s.len:=h1
   go_enter Tryz.func97,Tryz.ntmps97
   go_wp2_with fail;go_ret
   exact⟨congrArg (fun t=>Ending.returned (Value.string t)) HR.out.symm,HC.out⟩
end Go.Proofs.YtechofppmnnomaaGreatDoor
namespace Go.Mq.Sym
open Go Go.RowKit Go.Mq Go.Mq.Tree
def nM (l:List Sy) (n:List UInt8):Int:=match jr l n with
 | none=>-1
 | some k=>k
theorem YJ {l:List Sy} {n:List UInt8} {k:Nat} {s:Sy} (hk : l[k]?=some s) (hs : s.name=n) (hb : ∀ (i:Nat) (x:Sy),i < k→l[i]?=some x→x.name≠n) : jr l n=some k:=by
 have hlt:=(List.getElem?_eq_some_iff.1 hk).1;have hg:=(List.getElem?_eq_some_iff.1 hk).2;rw [jr,List.findIdx?_eq_some_iff_getElem];refine⟨hlt,by rw [hg];simpa using hs,fun i hi=>?_⟩;have:=hb i l[i] hi (List.getElem?_eq_getElem (by omega))
 simpa using this
theorem YK {l:List Sy} {n:List UInt8} (hb : ∀ (i:Nat) (x:Sy),l[i]?=some x→x.name≠n) : jr l n=none:=by
 rw [jr,List.findIdx?_eq_none_iff];intro x hx;obtain⟨i,hi⟩:=List.getElem?_of_mem hx
 simpa using hb i x hi
theorem Pt {l:List Sy} {n:List UInt8} {k:Nat} (h : jr l n=some k) : k < l.length:=by
 rw [jr,List.findIdx?_eq_some_iff_getElem] at h;exact h.1
end Go.Mq.Sym
namespace Go.Proofs.YtechofppmnnomaaGreatDoor
open Go Go.RowKit Go.Mq Go.Mq.Tree Go.Mq.Sym
set_option maxRecDepth 100000
set_option maxHeartbeats 2000000
theorem YL (s:Sy) (n:List UInt8) (b:Nat) (w:World) (hb : w.cell? ⟨b,0,none⟩=some (str n)):Calls Tryz.prog 126 #[.agg #[str s.name,.int .i64 s.len,.int .i64 s.args],ptr b] w (fun e w'=>e = .returned (.bool (s.name == n))∧ae [] w w'):=by
 have hlt:=lt_of_cell hb;have hb':=((ae.refl [] w).alloc (.cells #[str s.name,.int .i64 s.len,.int .i64 s.args] 185)).aH hb (by simp)
 go_enter Tryz.func126,Tryz.ntmps126
 go_wp2_with fail;go_ret
 exact⟨rfl,(ae.refl _ _).alloc _⟩
theorem YM (l:List Sy) (hl : l.length≤1000) (n:List UInt8) (b:Nat) (F:Nat→Prop) (v:Value) (w:World) (h:lY w F l v) (hb : w.cell? ⟨b,0,none⟩=some (str n)) :
  Calls Tryz.prog 125 #[v,.func (.func 126) #[] #[ptr b]] w (fun e w'=>e = .returned (.int .i64 (nM l n))∧ae [] w w'):=by
 obtain⟨a,c,rfl,hac,hrow,_⟩:=h;have iD:=zh hrow;have HB:=zh hb;clear hrow hb
 go_enter Tryz.func125,Tryz.ntmps125
 go_wp2_with fail
 go_loopw [5,8] (fun _ i wr=>∃ k:Nat,i = .int .i64 k∧k≤l.length∧ae [] w wr ∧ ∀ (i:Nat) (x:Sy),i < k→l[i]?=some x→x.name≠n) (fun _ i _=>l.length - (intOf i).toNat)
 case atStart=>exact⟨0,rfl,Nat.zero_le _,ae.refl _ _,fun i x hi=>by omega⟩
 case round=>
  obtain⟨k,rfl,hk,hc,hno⟩:=hrel;have pW:=zh hno;have HC:=zh hc;clear hno hc;by_cases hlt : k < l.length
  ·obtain⟨s,hs⟩ : ∃ s,l[k]?=some s:=⟨l[k],List.getElem?_eq_getElem hlt⟩
   obtain⟨bb,off,rfl,d0,d1,d2⟩:=JP (iD.out.kept HC.out (by simp)) hs;have HS:=zh hs;have HI:=zh (YL s n b wr (HC.out.aH HB.out (by simp)));clear hs;cases hq : (s.name == n) with
   | true=>
    rw [hq] at HI;have HR:=zh (show nM l n=k by rw [nM,YJ HS.out (by simpa using hq) pW.out]);clear hq;go_wp2_with fail;refine HI.out.mono ?_;rintro _ w2 ⟨rfl,hq⟩;have HQ:=zh (HC.out.then hq);clear hq;go_wp2_with fail;go_ret
    exact⟨by rw [HR.out];rfl,HQ.out⟩
   | false=>
    rw [hq] at HI;have HN:=zh (show s.name≠n by simpa using hq);clear hq;go_wp2_with fail;refine HI.out.mono ?_;rintro _ w2 ⟨rfl,hq⟩;have HQ:=zh (HC.out.then hq);clear hq;go_wp2_with fail;refine⟨⟨k + 1,by go_num,by omega,HQ.out,fun i x hi hx=>?_⟩,by simp [intOf];omega⟩;by_cases he : i < k
    ·exact pW.out i x he hx
    ·have : i=k:=by omega
     subst this;rw [HS.out] at hx;cases hx
     exact HN.out
  ·have HR:=zh (show nM l n = -1 by rw [nM,YK fun i x hx=>pW.out i x (by have:=(List.getElem?_eq_some_iff.1 hx).1;omega) hx])
   go_wp2_with fail;go_ret
   exact⟨by rw [HR.out];rfl,HC.out⟩
theorem Pv (l:List Sy) (hl : l.length≤1000) (n:List UInt8) (F:Nat→Prop) (v:Value) (w:World) (h:lY w F l v) :
  Calls Tryz.prog 96 #[v,str n] w (fun e w'=>e = .returned (.int .i64 (nM l n))∧ae [] w w'):=by
 have mO : ∀ (fn:Fn) (first cap:Array Value) (w:World),(Instr.makeFunc fn first cap).run Tryz.prog w = .ok (.func fn first cap) w:=fun _ _ _ _=>rfl
 have hc:ae [] w (w.alloc (.cells #[str n] 9)):=(ae.refl _ _).alloc _;have HI:=zh (YM l hl n w.heap.size F v (w.alloc (.cells #[str n] 9)) (h.kept hc (by simp)) ((ag.new w #[str n] 9).cell 0 _ rfl));have HC:=zh hc;clear h hc
 go_enter Tryz.func96,Tryz.ntmps96
 go_wp2_with fail;refine HI.out.mono ?_;rintro _ w2 ⟨rfl,hq⟩;have HQ:=zh (HC.out.then hq);clear hq;go_wp2_with fail;go_ret
 exact⟨rfl,HQ.out⟩
theorem YN (l:List Sy) (hf : ∀ x∈l,x.fit) (hl : l.length≤1000) (names:List (List UInt8)) (hn : names.length≤1000) (hs : ∀ n∈names,n.length≤1000000) (F F':Nat→Prop) (v v':Value) (w:World) (B:Nat) (hL:Laid w B) (h:lY w F l v) (h':eF w F' names v') :
  Calls Tryz.prog 54 #[v,v'] w (fun e w'=>e = .returned (str (iB l names))∧ae [] w w'):=by
 have FY:=zh h;have HL:=zh hL;have YO:=zh hf;have YP:=zh hs;obtain⟨a,c,rfl,hac,hrow,_⟩:=h;obtain⟨a',c',rfl,ahY,hrow'⟩:=h';have iD:=zh hrow;have YQ:=zh hrow';clear hrow hrow' hL hf hs
 go_enter Tryz.func54,Tryz.ntmps54
 go_wp2_with fail
 go_loopw [5,7,8,11] (fun s _ _ i wr=>∃ (k:Nat) (u:List UInt8),s=str u∧i = .int .i64 k∧k≤names.length∧ae [] w wr∧u=iB l (names.take k)∧u.length≤1000200 * k) (fun _ _ _ i _=>names.length - (intOf i).toNat)
 case atStart=>exact⟨0,[],rfl,rfl,Nat.zero_le _,ae.refl _ _,by simp [iB],by simp⟩
 case round=>
  obtain⟨k,u,rfl,rfl,hk,hc,hu,Az⟩:=hrel;have HC:=zh hc;have HU:=zh hu;clear hc hu;by_cases hlt : k < names.length
  ·obtain⟨n,hn'⟩ : ∃ n,names[k]?=some n:=⟨names[k],List.getElem?_eq_getElem hlt⟩
   have hnz:=YP.out n (List.mem_of_getElem? hn');obtain⟨b',o',rfl,hcell⟩:=YQ.out.at_ (by simp;omega);have hcl:=HC.out.aH (hcell k (str n) (by rw [List.getElem?_map,hn'];rfl)) (by simp);have ig:=zh (Pv l hl n F _ wr (FY.out.kept HC.out (by simp)));have eZ:=zh (show iB l (names.take (k + 1))=iB l (names.take k) ++ kS l n by rw [List.take_add_one,hn'];simp [iB]);obtain⟨nb,hnb⟩ : ∃ t:ByteArray,t=bs n:=⟨_,rfl⟩
   have ahZ : nb.size≤1000000:=by rw [hnb];exact hnz
   obtain⟨ub,hub⟩ : ∃ t:ByteArray,t=bs u:=⟨_,rfl⟩
   have ah0 : ub.size≤1000200 * k:=by rw [hub];exact Az
   have oL:=zh hnb;have JQ:=zh hub;clear hcell hn';cases hq : jr l n with
   | none=>
    have hfi : nM l n = -1:=by rw [nM,hq]
    rw [hfi] at ig;have HQ:=zh hq;clear hq hfi;have HV:=zh (show Value.string (bs u ++ (bs [110,111,110,101,32] ++ bs n ++ bs [10]))=str (u ++ kS l n) by rw [← oK,← oK,← oK,kS,HQ.out]);have jG:=zh (show (kS l n).length≤1000100 by rw [kS,HQ.out];simp;omega);go_wp2_with fail;refine ig.out.mono ?_;rintro _ w2 ⟨rfl,hq⟩;have aD:=zh (HC.out.then hq);clear hq;go_wp2_with fail;refine⟨⟨k + 1,u ++ kS l n,HV.out,by go_num,by omega,aD.out,by rw [eZ.out,HU.out],by have:=jG.out;simp;omega⟩,by simp [intOf];omega⟩
   | some j=>
    have hfi : nM l n=j:=by rw [nM,hq]
    have hjl:=Pt hq;rw [hfi] at ig;obtain⟨s,hs⟩ : ∃ s,l[j]?=some s:=⟨l[j],List.getElem?_eq_getElem hjl⟩
    have hnt : kS l n=jq s:=by
     rw [kS,hq]
     show jq (l.getD j Sy.none)=jq s
     rw [List.getD_eq_getElem?_getD,hs];rfl
    have FK:=zh hnt;have HS:=zh hs;have hfit:=YO.out s (List.mem_of_getElem? hs);have yN:=zh hfit;have jG:=zh (YH hfit);clear hq hfi hnt hs hfit;go_wp2_with fail;refine ig.out.mono ?_;rintro _ w2 ⟨rfl,hq⟩;have aD:=zh (HC.out.then hq);clear hq;obtain⟨bb,off,rfl,d0,d1,d2⟩:=JP (iD.out.kept aD.out (by simp)) HS.out;have kV:=zh (YI s yN.out w2 B (HL.out.kept aD.out (by simp)));obtain⟨t,ht⟩ : ∃ t:ByteArray,t=bs (jq s):=⟨_,rfl⟩
    have htz : t.size≤1000100:=by rw [ht];exact jG.out
    rw [show str (jq s) = .string t from congrArg Value.string ht.symm] at kV;have HV:=zh (show Value.string (bs u ++ t)=str (u ++ kS l n) by rw [ht,← oK,FK.out]);clear ht;go_wp2_with fail;refine kV.out.mono ?_;rintro _ w3 ⟨rfl,hq⟩;have bG:=zh (aD.out.then hq);clear hq;go_wp2_with fail;refine⟨⟨k + 1,u ++ kS l n,HV.out,by go_num,by omega,bG.out,by rw [eZ.out,HU.out],by have:=jG.out;rw [FK.out];simp;omega⟩,by simp [intOf];omega⟩
  ·have hke : k=names.length:=by omega
   have HR:=zh (show u=iB l names by rw [HU.out,hke,List.take_length]);go_wp2_with fail;go_ret
   exact⟨by rw [← HR.out];rfl,HC.out⟩
end Go.Proofs.YtechofppmnnomaaGreatDoor
namespace Go.Mq.Sym
open Go Go.RowKit Go.Mq Go.Mq.Tree
def Pw (x:aX) (cs:List Value):Prop:=∃ (pos:Int) (a1:Option Addr) (k1:Nat) (a2:Option Addr) (n2 k2:Nat) (a3:Option Addr) (n3 k3:Nat),cs=[str x.name,.int .i64 pos,.bool x.seen,.slice a1 x.params.length k1,.slice a2 n2 k2,.slice a3 n3 k3]
def CV:List aX→List Value→Prop
 | [],cs=>cs=[]
 | x :: r,cs=>∃ c1 c2,cs=c1 ++ c2∧Pw x c1∧CV r c2
def pX (w:World) (F:Nat→Prop) (l:List aX) (v:Value):Prop:=∃ a c cs,v = .slice a l.length c∧l.length≤c∧Row w F a cs∧CV l cs
theorem pX.kept {Z:List Nat} {w w':World} {F:Nat→Prop} {l:List aX} {v:Value} (h:pX w F l v) (hc:ae Z w w') (hS : ∀ x∈Z,¬ F x):pX w' F l v:=by
 obtain⟨a,c,cs,h1,h2,h3,h4⟩:=h;exact⟨a,c,cs,h1,h2,h3.kept hc hS,h4⟩
theorem Px {w:World} {F:Nat→Prop} : ∀ {l:List aX} {cs:List Value},kG w F l cs→CV l cs
 | [],_,h=>h
 | x :: r,_,h=>by
  obtain⟨c1,c2,rfl,⟨_,_,_,rfl,⟨a1,k1,rfl,_⟩,⟨a2,k2,rfl,_⟩,⟨a3,k3,_,rfl,_⟩⟩,h2⟩:=h;exact⟨_,_,rfl,⟨x.pos,a1,k1,a2,_,k2,a3,_,k3,rfl⟩,Px h2⟩
theorem uN {w:World} {F:Nat→Prop} {l:List aX} {v:Value} (h:oz w F l v):pX w F l v:=by
 obtain⟨a,c,cs,h1,h2,h3,h4⟩:=h;exact⟨a,c,cs,h1,h2,h3,Px h4⟩
theorem Py {w:World} {b:Nat} (v0 v1 v2 v3:Value) {u0 u1 u2 u3:Value} {t:TypeId} (h:ag w b #[u0,u1,u2,u3] t) : ∃ wF,((((w.setCell ⟨b,0,none⟩ v0).setCell ⟨b,1,none⟩ v1).setCell ⟨b,2,none⟩ v2).setCell ⟨b,3,none⟩ v3)=wF∧ae [b] w wF∧ag wF b #[v0,v1,v2,v3] t:=
 ⟨_,rfl,(((ae.set1 _ _ _ _).then (ae.set1 _ _ _ _)).then (ae.set1 _ _ _ _)).then (ae.set1 _ _ _ _),by
  have:=(((h.set 0 v0).set 1 v1).set 2 v2).set 3 v3
  simpa using this⟩
theorem FZ {w:World} {b:Nat} (v0 v1 v2 v3 v4 v5:Value) {u0 u1 u2 u3 u4 u5:Value} {t:TypeId} (h:ag w b #[u0,u1,u2,u3,u4,u5] t) : ∃ wF,((((((w.setCell ⟨b,0,none⟩ v0).setCell ⟨b,1,none⟩ v1).setCell ⟨b,2,none⟩ v2).setCell ⟨b,3,none⟩ v3).setCell ⟨b,4,none⟩ v4).setCell ⟨b,5,none⟩ v5)=wF∧ae [b] w wF∧ag wF b #[v0,v1,v2,v3,v4,v5] t:=
 ⟨_,rfl,(((((ae.set1 _ _ _ _).then (ae.set1 _ _ _ _)).then (ae.set1 _ _ _ _)).then (ae.set1 _ _ _ _)).then (ae.set1 _ _ _ _)).then (ae.set1 _ _ _ _),by
  have:=(((((h.set 0 v0).set 1 v1).set 2 v2).set 3 v3).set 4 v4).set 5 v5
  simpa using this⟩
theorem Pz {w:World} {F:Nat→Prop} {a:Option Addr} {cs1 cs':List Value} {c0 c1 c2 c3:Value} {k:Nat} (h:Row w F a (cs1 ++ c0 :: c1 :: c2 :: c3 :: cs')) (hl : cs1.length=k * 4) :
  ∃ bb off,a=some ⟨bb,off,none⟩∧w.cell? ⟨bb,off + k * 4,none⟩=some c0∧w.cell? ⟨bb,off + k * 4 + 1,none⟩=some c1∧w.cell? ⟨bb,off + k * 4 + 2,none⟩=some c2∧w.cell? ⟨bb,off + k * 4 + 3,none⟩=some c3:=by
 obtain⟨bb,off,rfl,hc⟩:=h.at_ (by simp only [List.length_append,List.length_cons];omega);have g : ∀ i v,(c0 :: c1 :: c2 :: c3 :: cs')[i]?=some v→w.cell? ⟨bb,off + k * 4 + i,none⟩=some v:=fun i v hv=>by
  rw [Nat.add_assoc];refine hc (k * 4 + i) v ?_;rw [← hl,List.getElem?_append_right (by omega),Nat.add_sub_cancel_left];exact hv
 exact⟨bb,off,rfl,by simpa using g 0 _ rfl,g 1 _ rfl,g 2 _ rfl,g 3 _ rfl⟩
theorem yO {w:World} {F:Nat→Prop} {a:Option Addr} {cs1 cs':List Value} {c0 c1 c2 c3 c4 c5:Value} {k:Nat} (h:Row w F a (cs1 ++ c0 :: c1 :: c2 :: c3 :: c4 :: c5 :: cs')) (hl : cs1.length=k * 6) :
  ∃ bb off,a=some ⟨bb,off,none⟩∧w.cell? ⟨bb,off + k * 6,none⟩=some c0∧w.cell? ⟨bb,off + k * 6 + 1,none⟩=some c1∧w.cell? ⟨bb,off + k * 6 + 2,none⟩=some c2∧w.cell? ⟨bb,off + k * 6 + 3,none⟩=some c3∧w.cell? ⟨bb,off + k * 6 + 4,none⟩=some c4∧w.cell? ⟨bb,off + k * 6 + 5,none⟩=some c5:=by
 obtain⟨bb,off,rfl,hc⟩:=h.at_ (by simp only [List.length_append,List.length_cons];omega);have g : ∀ i v,(c0 :: c1 :: c2 :: c3 :: c4 :: c5 :: cs')[i]?=some v→w.cell? ⟨bb,off + k * 6 + i,none⟩=some v:=fun i v hv=>by
  rw [Nat.add_assoc];refine hc (k * 6 + i) v ?_;rw [← hl,List.getElem?_append_right (by omega),Nat.add_sub_cancel_left];exact hv
 exact⟨bb,off,rfl,by simpa using g 0 _ rfl,g 1 _ rfl,g 2 _ rfl,g 3 _ rfl,g 4 _ rfl,g 5 _ rfl⟩
theorem gP.row {w:World} {g:Nat} {l:List Sy} {F:Nat→Prop} (h:gP w g l) (hF:F g):Row w F (some ⟨g,0,none⟩) (l.flatMap Sy.cells):=by
 refine⟨fun _=>⟨g,0,rfl,fun i x hx=>?_⟩,fun _ p hp=>by cases hp;exact hF⟩;have key : ∀ (l:List Sy) (i:Nat) (x:Value),(l.flatMap Sy.cells)[i]?=some x → ∃ k s,l[k]?=some s ∧ ∃ j,j < 3∧i=k * 3 + j∧s.cells[j]?=some x:=by
  intro l
  induction l with
  | nil=>intro i x hx;simp at hx
  | cons y r ih=>
   intro i x hx;rw [List.flatMap_cons] at hx;by_cases hi : i < 3
   ·rw [List.getElem?_append_left (by simp [Sy.cells];omega)] at hx
    exact⟨0,y,rfl,i,hi,by omega,hx⟩
   ·rw [List.getElem?_append_right (by simp [Sy.cells];omega)] at hx
    obtain⟨k,s,hk,j,hj,he,hs⟩:=ih _ x hx;exact⟨k + 1,s,by simpa using hk,j,hj,by simp [Sy.cells] at he;omega,hs⟩
 obtain⟨k,s,hk,j,hj,rfl,hs⟩:=key l i x hx;obtain⟨c0,c1,c2⟩:=h.cells hk;rw [Nat.zero_add]
 match j,hj with
 | 0,_=>simp [Sy.cells] at hs;subst hs;exact c0
 | 1,_=>simp [Sy.cells] at hs;subst hs;exact c1
 | 2,_=>simp [Sy.cells] at hs;subst hs;exact c2
theorem PD {g:bJ} {r:List bJ} {L:List Sy} {T:List Sy} (h:L ++ ((g :: r).filter (·.seen)).map pU=T) : (if g.seen then L ++ [pU g] else L) ++ (r.filter (·.seen)).map pU=T:=by
 rw [← h,List.filter_cons];split <;> simp
theorem PE {g:aX} {r:List aX} {L:List Sy} {T:List Sy} (h:L ++ ((g :: r).filter (·.seen)).map tC=T) : (if g.seen then L ++ [tC g] else L) ++ (r.filter (·.seen)).map tC=T:=by
 rw [← h,List.filter_cons];split <;> simp
end Go.Mq.Sym
namespace Go.Proofs.YtechofppmnnomaaGreatDoor
open Go Go.RowKit Go.Mq Go.Mq.Tree Go.Mq.Sym
set_option maxRecDepth 100000
set_option maxHeartbeats 4000000
theorem PG : (Tryz.prog.info? 185).map (fun i=>(i.zero,i.size,i.bytes))=some (some (.agg #[.string ⟨#[]⟩,.int .i64 0,.int .i64 0]),3,32):=by kernel_rfl
theorem PH (vs:List bJ) (ps:List aX) (hvs : vs.length≤10) (hps : ps.length≤10) (F:Nat→Prop) (nm:List UInt8) (x1:Option Addr) (y1 z1:Nat) (x4:Option Addr) (y4 z4:Nat) (vv vp:Value) (w:World) (hgv:lD w F vs vv) (hpv:pX w F ps vp) :
  Calls Tryz.prog 52 #[.agg #[str nm,.slice x1 y1 z1,vv,vp,.slice x4 y4 z4]] w (fun e w'=>∃ v,e = .returned v∧lY w' (New w w') (rH (uL vs ps)) v∧ae [] w w'):=by
 obtain⟨av,cv,rfl,ah1,PI⟩:=hgv;obtain⟨ap,cp,uO,rfl,hpv1,hpv2,PK⟩:=hpv;obtain⟨w0,hw0⟩ : ∃ w0,w.alloc (.cells #[str nm,.slice x1 y1 z1,.slice av vs.length cv,.slice ap ps.length cp,.slice x4 y4 z4] 32)=w0:=⟨_,rfl⟩
 have hbX:=ag.new w #[str nm,.slice x1 y1 z1,.slice av vs.length cv,.slice ap ps.length cp,.slice x4 y4 z4] 32;have iT:ae [] w w0:=by rw [← hw0];exact(ae.refl _ _).alloc _
 have hsX : w0.heap.size=w.heap.size + 1:=by rw [← hw0];simp
 rw [hw0] at hbX;have e0:=hbX.cell 0 _ rfl;have e1:=hbX.cell 1 _ rfl;have e2:=hbX.cell 2 _ rfl;have e3:=hbX.cell 3 _ rfl;have e4:=hbX.cell 4 _ rfl;have HX:=zh hbX;have yP:=zh iT;have F3:=zh (PI.kept iT (by simp));have F4:=zh (hpv2.kept iT (by simp));have mR:=zh PK;clear hbX iT PI hpv2 PK
 go_enter Tryz.func52,Tryz.ntmps52
 go_wp2_with fail;clear hw0 e0 e1 e2 e3 e4
 go_loopw [3,5,11] (fun lv _ i wr=>∃ (k:Nat) (rest:List bJ) (L:List Sy) (cs1:List Value),i = .int .i64 k∧k + rest.length=vs.length∧vs.flatMap bJ.cells=cs1 ++ rest.flatMap bJ.cells∧cs1.length=k * 4∧L.length≤k∧ae [] w0 wr∧wr.ownsRow 0 185 3 lv L.length (L.flatMap Sy.cells)∧From w0.heap.size lv∧L ++ (rest.filter (·.seen)).map pU=(vs.filter (·.seen)).map pU) (fun _ _ i _=>vs.length - (intOf i).toNat)
 case atStart=>exact⟨0,vs,[],[],rfl,by simp,rfl,rfl,Nat.le_refl _,ae.refl _ _,World.ownsRow_nil _ _ _ _,From.nil _,rfl⟩
 case round=>
  obtain⟨k,rest,L,cs1,rfl,hk,jZ,hl1,hLk,hc,ho,hf,hT⟩:=hrel;have HC:=zh hc;have HO:=zh ho;have HF:=zh hf;have HT:=zh hT;clear hc ho hf hT;cases rest with
  | nil=>
   have hke : ¬ k < vs.length:=by simp at hk;omega
   have wY : (vs.filter (·.seen)).map pU=L:=by have:=HT.out;simpa using this.symm
   have jG:=zh wY;have hbX:=HX.out.kept HC.out (by simp);have e0:=hbX.cell 0 _ rfl;have e1:=hbX.cell 1 _ rfl;have e2:=hbX.cell 2 _ rfl;have e3:=hbX.cell 3 _ rfl;have e4:=hbX.cell 4 _ rfl;have YR:L.length≤vs.length:=by simp at hk;omega
   clear hbX jZ wY;go_wp2_with fail;clear e0 e1 e2 e3 e4;have hce : ∀ x,L ++ x=(vs.filter (·.seen)).map pU ++ x:=fun x=>by rw [jG.out]
   have fJ:=zh hce;clear hce HT
   go_loopw [3,7,29] (fun lv _ i wr=>∃ (k:Nat) (rest:List aX) (M:List Sy) (cs1 cs2:List Value),i = .int .i64 k∧k + rest.length=ps.length∧uO=cs1 ++ cs2∧cs1.length=k * 6∧CV rest cs2∧M.length≤vs.length + k∧ae [] w0 wr∧wr.ownsRow 0 185 3 lv M.length (M.flatMap Sy.cells)∧From w0.heap.size lv∧M ++ (rest.filter (·.seen)).map tC=uL vs ps) (fun _ _ i _=>ps.length - (intOf i).toNat)
   case atStart=>exact⟨0,ps,L,[],uO,rfl,by simp,rfl,rfl,mR.out,by omega,HC.out,HO.out,HF.out,by rw [uL,fJ.out]⟩
   case round=>
    clear fJ jG HO HF HC hLk YR hl1 hk hke;obtain⟨k,rest,L,cs1,cs2,rfl,hk,jZ,hl1,hpl,hLk,hc,ho,hf,hT⟩:=hrel;have HC:=zh hc;have HO:=zh ho;have HF:=zh hf;have HT:=zh hT;clear hc ho hf hT;cases rest with
    | nil=>
     have hke : ¬ k < ps.length:=by simp at hk;omega
     have wY : uL vs ps=L:=by have:=HT.out;simpa using this.symm
     have jG:=zh wY;have YS:L.length≤20:=by simp at hk;omega
     have hsz0:=HC.out.size;clear jZ hpl wY;rcases gP.jF HO.out with⟨hlv,hnil⟩|⟨g,c,hlv,hlc,hsy⟩
     ·have YT:=zh hnil
      subst hlv;clear hnil;have HST:=zh (Yf wr);go_wp2_with fail;refine HST.out.mono ?_;rintro _ _ ⟨rfl,hw⟩;have hw:=hw.symm;subst hw;go_wp2_with fail;go_ret
      refine⟨_,rfl,?_,yP.out.then HC.out⟩;rw [jG.out,YT.out];exact⟨none,0,rfl,Nat.le_refl _,Row.nil _ _ _,fun _=>rfl⟩
     ·have hg0 : w0.heap.size≤g:=HF.out g (by rw [hlv];simp [blk])
      subst hlv;have HST:=zh (Ye g L c YS wr hsy);clear hsy;go_wp2_with fail;refine HST.out.mono ?_;rintro _ w5 ⟨rfl,hb5,bC⟩;have qR:=zh hb5;have cO:=zh bC;clear hb5 bC;go_wp2_with fail;go_ret
      have PL:=qR.out.lt;refine⟨_,rfl,?_,(yP.out.then HC.out).trans cO.out (fun x hx=>.inr (by simp at hx;omega))⟩;rw [jG.out];exact⟨_,c,by rw [JI];rfl,by rw [JI];exact hlc,qR.out.row ⟨by omega,PL⟩,fun h=>by cases h⟩
    | cons x r=>
     obtain⟨xn,xp,PM,tF,xvs,xb⟩:=x;obtain⟨_,cs',rfl,⟨pos,a1,k1,a2,n2,k2,a3,n3,k3,rfl⟩,hpl'⟩:=hpl;have HR:=zh hpl';have hlt : k < ps.length:=by simp at hk;omega
     simp only [List.cons_append,List.nil_append] at jZ;have CW:=zh jZ;clear hpl';have hxl : tF.length≤1000000∨True:=.inr trivial;have hrw:=F4.out.kept HC.out (by simp);rw [jZ] at hrw;obtain⟨bb,off,rfl,d0,d1,d2,d3,d4,d5⟩:=yO hrw hl1;have hz:=ag.new wr #[str [],.int .i64 0,.bool false,ah,ah,ah] 72;obtain⟨wA,az⟩ : ∃ wA,wr.alloc (.cells #[str [],.int .i64 0,.bool false,ah,ah,ah] 72)=wA:=⟨_,rfl⟩
     rw [az] at hz;have hcA:ae [] wr wA:=by rw [← az];exact(ae.refl _ _).alloc _
     obtain⟨wF,hwF,aV,aG⟩:=FZ (str xn) (.int .i64 pos) (.bool PM) (.slice a1 tF.length k1) (.slice a2 n2 k2) (.slice a3 n3 k3) hz;have hcw:ae [] wr wF:=hcA.trans aV (fun x hx=>.inr (by simp at hx;omega));have g0:=hcA.aH d0 (by simp);have g1:=hcA.aH d1 (by simp);have g2:=hcA.aH d2 (by simp);have g3:=hcA.aH d3 (by simp);have g4:=hcA.aH d4 (by simp);have g5:=hcA.aH d5 (by simp);have z0:=hz.cell 0 _ rfl;have z1:=hz.cell 1 _ rfl;have z2:=hz.cell 2 _ rfl;have z3:=hz.cell 3 _ rfl;have z4:=hz.cell 4 _ rfl;have z5:=hz.cell 5 _ rfl;have y0:=hz.frozen 0;have y1:=hz.frozen 1;have y2:=hz.frozen 2;have y3:=hz.frozen 3;have y4:=hz.frozen 4;have y5:=hz.frozen 5;have b0:=aG.cell 0 _ rfl;have b1:=aG.cell 1 _ rfl;have b2:=aG.cell 2 _ rfl;have b3:=aG.cell 3 _ rfl;have b4:=aG.cell 4 _ rfl;have b5:=aG.cell 5 _ rfl;have dM:=zh (HC.out.then hcw);have YU:=hcw.size;have hsz0:=HC.out.size;have nN:=zh (cK HO.out hcw (by simp));clear hrw hcA aV aG hcw hz jZ;cases hgs : PM with
     | false=>
      subst hgs;go_wp2_with fail;exact⟨⟨k + 1,r,L,cs1 ++ [str xn,.int .i64 pos,.bool false,.slice a1 tF.length k1,.slice a2 n2 k2,.slice a3 n3 k3],cs',by go_num,by simp at hk;omega,by rw [CW.out];simp,by simp [hl1];omega,HR.out,by omega,dM.out,nN.out,HF.out,by have e:=PE HT.out;simpa using e⟩,by simp [intOf];omega⟩
     | true=>
      subst hgs;have uH:=zh (cK nN.out ((ae.refl [] wF).alloc (.cells #[str xn,.int .i64 0,.int .i64 (tF.length:Int)] 185)) (by simp));go_wp2_with (at_builtin;go_must (refine pO rfl _ _ 120 rfl 185 _ 3 32 PG Tryz.underlying120 rfl (by decide) _ _ _ rfl uH.out ⟨wF.heap.size,0,none⟩ 1 1 (Sy.cells (⟨xn,0,(tF.length:Int)⟩ : Sy)) rfl rfl (uI _ _ _) (by simp [Sy.cells,Value.oneCell']) ?_ ?_ ?_))
      ·omega
      ·unfold maxLen;omega
      ·intro v' w' hown' hch' bX
       have hf3:=HF.out.moved bX (by simp;omega);have pY:=zh hf3;have bG:=zh ((dM.out.alloc (.cells #[str xn,.int .i64 0,.int .i64 (tF.length:Int)] 185)).trans hch' (fun x hx=>.inr (HF.out x hx)));have wZ:=zh (show w'.ownsRow 0 185 3 v' (L ++ [(⟨xn,0,(tF.length:Int)⟩ : Sy)]).length ((L ++ [(⟨xn,0,(tF.length:Int)⟩ : Sy)]).flatMap Sy.cells) by simpa [List.flatMap_append] using hown');clear hown' hch' bX hf3;go_wp2_with fail;exact⟨⟨k + 1,r,L ++ [(⟨xn,0,(tF.length:Int)⟩ : Sy)],cs1 ++ [str xn,.int .i64 pos,.bool true,.slice a1 tF.length k1,.slice a2 n2 k2,.slice a3 n3 k3],cs',by go_num,by simp at hk;omega,by rw [CW.out];simp,by simp [hl1];omega,HR.out,by simp;omega,bG.out,wZ.out,pY.out,by have e:=PE HT.out;simpa [pU,tC] using e⟩,by simp [intOf];omega⟩
  | cons g r=>
   obtain⟨gn,gp,gl,gs⟩:=g;have hlt : k < vs.length:=by simp at hk;omega
   simp only [List.flatMap_cons,bJ.cells,List.cons_append,List.nil_append] at jZ;have CW:=zh jZ;have hrw:=F3.out.kept HC.out (by simp);rw [jZ] at hrw;obtain⟨bb,off,rfl,d0,d1,d2,d3⟩:=Pz hrw hl1;have hz:=ag.new wr #[str [],.int .i64 0,.int .i64 0,.bool false] 68;obtain⟨wA,az⟩ : ∃ wA,wr.alloc (.cells #[str [],.int .i64 0,.int .i64 0,.bool false] 68)=wA:=⟨_,rfl⟩
   rw [az] at hz;have hcA:ae [] wr wA:=by rw [← az];exact(ae.refl _ _).alloc _
   obtain⟨wF,hwF,aV,aG⟩:=Py (str gn) (.int .i64 gp) (.int .i64 gl) (.bool gs) hz;have hcw:ae [] wr wF:=hcA.trans aV (fun x hx=>.inr (by simp at hx;omega));have g0:=hcA.aH d0 (by simp);have g1:=hcA.aH d1 (by simp);have g2:=hcA.aH d2 (by simp);have g3:=hcA.aH d3 (by simp);have z0:=hz.cell 0 _ rfl;have z1:=hz.cell 1 _ rfl;have z2:=hz.cell 2 _ rfl;have z3:=hz.cell 3 _ rfl;have y0:=hz.frozen 0;have y1:=hz.frozen 1;have y2:=hz.frozen 2;have y3:=hz.frozen 3;have b0:=aG.cell 0 _ rfl;have b1:=aG.cell 1 _ rfl;have b2:=aG.cell 2 _ rfl;have b3:=aG.cell 3 _ rfl;have dM:=zh (HC.out.then hcw);have YU:=hcw.size;have hsz0:=HC.out.size;have nN:=zh (cK HO.out hcw (by simp));clear hrw hcA aV aG hcw hz jZ;cases hgs : gs with
   | false=>
    subst hgs;go_wp2_with fail;exact⟨⟨k + 1,r,L,cs1 ++ [str gn,.int .i64 gp,.int .i64 gl,.bool false],by go_num,by simp at hk;omega,by rw [CW.out];simp,by simp [hl1];omega,by omega,dM.out,nN.out,HF.out,by have e:=PD HT.out;simpa using e⟩,by simp [intOf];omega⟩
   | true=>
    subst hgs;have uH:=zh (cK nN.out ((ae.refl [] wF).alloc (.cells #[str gn,.int .i64 gl,.int .i64 (-1)] 185)) (by simp));go_wp2_with (at_builtin;go_must (refine pO rfl _ _ 120 rfl 185 _ 3 32 PG Tryz.underlying120 rfl (by decide) _ _ _ rfl uH.out ⟨wF.heap.size,0,none⟩ 1 1 (Sy.cells (⟨gn,gl,-1⟩ : Sy)) rfl rfl (uI _ _ _) (by simp [Sy.cells,Value.oneCell']) ?_ ?_ ?_))
    ·omega
    ·unfold maxLen;omega
    ·intro v' w' hown' hch' bX
     have hf3:=HF.out.moved bX (by simp;omega);have pY:=zh hf3;have bG:=zh ((dM.out.alloc (.cells #[str gn,.int .i64 gl,.int .i64 (-1)] 185)).trans hch' (fun x hx=>.inr (HF.out x hx)));have wZ:=zh (show w'.ownsRow 0 185 3 v' (L ++ [(⟨gn,gl,-1⟩ : Sy)]).length ((L ++ [(⟨gn,gl,-1⟩ : Sy)]).flatMap Sy.cells) by simpa [List.flatMap_append] using hown');clear hown' hch' bX hf3;go_wp2_with fail;exact⟨⟨k + 1,r,L ++ [(⟨gn,gl,-1⟩ : Sy)],cs1 ++ [str gn,.int .i64 gp,.int .i64 gl,.bool true],by go_num,by simp at hk;omega,by rw [CW.out];simp,by simp [hl1];omega,by simp;omega,bG.out,wZ.out,pY.out,by have e:=PD HT.out;simpa [pU,tC] using e⟩,by simp [intOf];omega⟩
end Go.Proofs.YtechofppmnnomaaGreatDoor
namespace Go.Mq.Sym
open Go Go.RowKit Go.Mq Go.Mq.Tree
theorem PN {l:List Sy} {k:Nat} (h : k < l.length) : l.getD k Sy.none∈l:=by
 rw [List.getD_eq_getElem?_getD,List.getElem?_eq_getElem h];exact List.getElem_mem h
theorem PO {x:Sy} : ∀ (k:Nat) (l:List Sy),k < l.length→x∈nL k l→x∈l
 | 0,_,_,h=>h
 | k + 1,l,hk,h=>by
  rw [nL] at h;split at h
  ·have h1:=PO k _ (by simp;omega) h
   rcases List.mem_or_eq_of_mem_set h1 with h2|h2
   ·rcases List.mem_or_eq_of_mem_set h2 with h3|h3
    ·exact h3
    ·rw [h3];exact PN (by omega)
   ·rw [h2];exact PN hk
  ·exact h
theorem PQ {x:Sy} : ∀ (d i n:Nat) (l:List Sy),n - i≤d→n≤l.length→x∈tu i n l→x∈l
 | 0,i,n,l,h,_,hx=>by rwa [CP (by omega)] at hx
 | d + 1,i,n,l,h,hn,hx=>by
  by_cases hi : i < n
  ·rw [FV hi] at hx
   exact PO i l (by omega) (PQ d (i + 1) n _ (by omega) (by rw [JH];exact hn) hx)
  ·rwa [CP (by omega)] at hx
theorem PR {x:Sy} {l:List Sy} (h : x∈rH l) : x∈l:=PQ _ 1 l.length l (Nat.le_refl _) (Nat.le_refl _) h
theorem YV {vs:List bJ} {ps:List aX} (hv : ∀ g∈vs,CB g) (hp : ∀ x∈ps,Au x) : ∀ x∈rH (uL vs ps),x.fit:=by
 intro x hx;have h:=PR hx;simp only [uL,List.mem_append,List.mem_map,List.mem_filter] at h;rcases h with⟨g,⟨hg,_⟩,rfl⟩|⟨p,⟨hg,_⟩,rfl⟩
 ·have:=hv g hg
  exact⟨by have:=this.name.2.2;show g.name.length≤_;omega,this.low,by have:=this.high;show g.len≤_;omega,by show (-1:Int) ≤ -1;omega,by show (-1:Int)≤_;omega⟩
 ·have:=hp p hg
  exact⟨by have:=this.name.2.2;show p.name.length≤_;omega,by show (0:Int)≤0;omega,by show (0:Int)≤_;omega,by show (-1:Int)≤(p.params.length:Int);omega,by have:=this.few;show (p.params.length:Int)≤_;omega⟩
theorem PS {vs:List bJ} {ps:List aX} (hv : vs.length≤10) (hp : ps.length≤10) : (rH (uL vs ps)).length≤20:=by
 rw [JI,uL,List.length_append,List.length_map,List.length_map];have h1:=List.length_filter_le (fun g:bJ=>g.seen) vs;have h2:=List.length_filter_le (fun g:aX=>g.seen) ps;omega
abbrev Holds (w:World) (e:Ending) (w':World):Prop:=e = .returned (.bool true)∧ae [] w w'
end Go.Mq.Sym
namespace Go.Mq.Sym
open Go Go.RowKit Go.Mq Go.Mq.Tree
theorem xc {w:World} {F:Nat→Prop} {m:Mod} {v:Value} (h:gY w F m v) : ∃ (ai:Option Addr) (ci:Nat) (av:Option Addr) (cv:Nat) (ap:Option Addr) (cp:Nat) (ab:Option Addr) (cb:Nat),v = .agg #[str m.name,.slice ai m.imports.length ci,.slice av m.vars.length cv,.slice ap m.procs.length cp,.slice ab m.body.len cb]∧lD w F m.vars (.slice av m.vars.length cv)∧pX w F m.procs (.slice ap m.procs.length cp):=by
 obtain⟨vi,vv,vp,vb,rfl,⟨ai,ci,rfl,_⟩,⟨av,cv,rfl,h1,h2⟩,hp,⟨ab,cb,_,rfl,_⟩⟩:=h;have hp':=uN hp;obtain⟨ap,cp,cs,rfl,h3,h4,h5⟩:=hp';exact⟨ai,ci,av,cv,ap,cp,ab,cb,rfl,⟨av,cv,rfl,h1,h2⟩,⟨ap,cp,cs,rfl,h3,h4,h5⟩⟩
end Go.Mq.Sym
namespace Go.Mq.Sym
open Go Go.RowKit Go.Mq Go.Mq.Tree
theorem xe {w:World} {F:Nat→Prop} {a:Option Addr} {l:List (List UInt8)} (h:Row w F a (l.map str)) {k:Nat} {n:List UInt8} (hk : l[k]?=some n) : ∃ b o,a=some ⟨b,o,none⟩∧w.cell? ⟨b,o + k,none⟩=some (str n):=by
 obtain⟨b,o,rfl,hc⟩:=h.at_ (by have:=(List.getElem?_eq_some_iff.1 hk).1;simp;omega);exact⟨b,o,rfl,hc k (str n) (by rw [List.getElem?_map,hk];rfl)⟩
end Go.Mq.Sym
namespace Go.Proofs.YtechofppmnnomaaGreatDoor
open Go Go.RowKit Go.Mq Go.Mq.Tree Go.Mq.Sym
set_option maxRecDepth 100000
set_option maxHeartbeats 2000000
end Go.Proofs.YtechofppmnnomaaGreatDoor
