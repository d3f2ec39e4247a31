/- Some texts in one. -/
import Derived.Laws.BytesString
import Derived.Laws.CopyRow
import Derived.Test.YtechofppmnnomaaGreatDoorB2
import Derived.Test.YtechofppmnnomaaGreatDoorB27
namespace Go.Proofs.YtechofppmnnomaaGreatDoor
open Go Go.RowKit Go.Mq Go.Mq.Tree Go.Mq.Sym Go.Mq.Run
def pairT (u:Int):List UInt8:=[UInt8.ofNat (IntKind.u64.wrap (97 + bits BinOp.and IntKind.u64 u 15) % 256).toNat,UInt8.ofNat (IntKind.u64.wrap (97 + bits BinOp.and IntKind.u64 (u / 16) 15) % 256).toNat]
def zT:Nat→Int→List UInt8
 | 0,_=>[]
 | k + 1,u=>pairT u ++ zT k (u / 256)
def TE (l:List Int):List UInt8:=l.flatMap fun x=>zT 8 (IntKind.u64.wrap x)
def uu (W:Wd) (q v:Nm):List UInt8:=match qy W q v with
 | none=>[45]
 | some l=>v ++ TE l
def sD:List Nm:=[[120],[121],[116],[117],[122]]
def uF (W:Wd) (q:Nm):List UInt8:=q ++ sD.flatMap (uu W q) ++ [59]
def allT (W:Wd):List UInt8:=W.order.flatMap (uF W)
theorem Er (a b:List UInt8) : bs a ++ bs b=bs (a ++ b):=by
 apply ByteArray.ext
 simp [bs]
theorem Ih {α:Type} {l:List α} {k:Nat} {x : α} (h : l[k]?=some x) (f : α→List UInt8) : (l.take (k + 1)).flatMap f=(l.take k).flatMap f ++ f x:=by
 rw [zo h,List.flatMap_append];simp
set_option maxRecDepth 100000
set_option maxHeartbeats 4000000
theorem ac5 (w:World) (n1 n2:Int) : (convert 114 9 (.slice (some ⟨w.heap.size,0,none⟩) 2 2)).run Tryz.prog (w.alloc (.cells #[.int .u8 n1,.int .u8 n2] 5)) = .ok (.string (bs [UInt8.ofNat n1.toNat,UInt8.ofNat n2.toNat])) (w.alloc (.cells #[.int .u8 n1,.int .u8 n2] 5)):=by
 rw [run_convert_bytes_string _ _ _ 5 _ _ _ Tryz.underlying114 Tryz.underlying5 Tryz.underlying9];refine run_bytesToString _ ⟨w.heap.size,0,none⟩ 2 2 [n1,n2] ?_;have hz:=ag.new w #[.int .u8 n1,.int .u8 n2] 5;exact run_loadCells_list _ _ [.int .u8 n1,.int .u8 n2] (fun j v hv=>by
  match j,hv with
  | 0,hv=>cases hv;exact hz.cell 0 _ rfl
  | 1,hv=>cases hv;exact hz.cell 1 _ rfl)
theorem TF (x:Int) : 0≤IntKind.u64.wrap x∧IntKind.u64.wrap x < 18446744073709551616:=by
 have h:IntKind.u64.wrap x=x % 18446744073709551616:=rfl;rw [h];omega
theorem ac6 {w:World} {Own G:Nat→Prop} {bw:Nat} {W:Wd} (h:dZ w Own G bw W) (hI:Inv W) :
  Calls Tryz.prog 17 #[ptr bw] w (fun e w'=>e = .returned (str (allT W))∧ae [] w w'):=by
 have HN:=zh (ac3 h);have HG:=zh (fun q n w' (hc:ae [] w w')=>TD (h.kept hc (by simp)) q n);have JX:=zh (fun q (hq : q∈W.order)=>(show q.length≤10 by
  obtain⟨m,hm⟩:=Option.isSome_iff_exists.1 ((hI.order q).1 hq);obtain⟨h1,h2⟩:=hI.ok.good q m hm;rw [← h2];exact h1.wf.name.2.2))
 have dK:=h.few;clear h hI
 go_enter Tryz.func17,Tryz.ntmps17
 go_wp2_with fail;refine HN.out.mono ?_;rintro _ w1 ⟨vn,rfl,TG,ac7,hc1⟩;have TH:=TG;obtain⟨an,cn,rfl,hcn,hrn⟩:=Row.jF (F:=fun _=>True) TH (fun _ _=>trivial);have hln : (W.order.map str).length=W.order.length:=by simp
 have HVN:=zh hrn;have cZ:=zh hc1;clear TG TH hrn ac7 hc1;go_wp2_with fail
 go_loopw [3,5,7,8,9,10,11,12] (fun s i _ _ _ _ _ _ wr=>∃ (k:Nat) (S:ByteArray),s = .string S∧Hid (S=bs ((W.order.take k).flatMap (uF W)))∧S.size≤k * 1000000∧i = .int .i64 k∧k≤W.order.length∧ae [] w1 wr) (fun _ i _ _ _ _ _ _ _=>W.order.length - (intOf i).toNat)
 case atStart=>exact⟨0,_,rfl,zh rfl,Nat.zero_le _,rfl,Nat.zero_le _,ae.refl _ _⟩
 case round=>
  obtain⟨k,S,rfl,HS,hSz,rfl,hk,hc⟩:=hrel;have HC:=zh hc;clear hc;by_cases hlt : k < W.order.length
  ·obtain⟨q,hq⟩ : ∃ q,W.order[k]?=some q:=⟨W.order[k],List.getElem?_eq_getElem hlt⟩
   have HQ:=zh hq;have TI:=JX.out q (List.mem_of_getElem? hq);obtain⟨bb,off,rfl,hc⟩:=Dc (HVN.out.kept HC.out (by simp)) (show k < (W.order.map str).length by simpa using hlt);have hcq : wr.cell? ⟨bb,off + k,none⟩=some (str q):=by
    rw [hc];simp only [List.getElem_map];rw [List.getElem?_eq_getElem hlt,Option.some.injEq] at hq;rw [hq]
   obtain⟨qb,xQ⟩ : ∃ x,x=bs q:=⟨_,rfl⟩
   rw [str,← xQ] at hcq;have hqs : qb.size≤10:=by rw [xQ,Oa];exact TI
   have Ii:=zh xQ;have hz:=ag.new wr #[.string ⟨#[120]⟩,.string ⟨#[121]⟩,.string ⟨#[116]⟩,.string ⟨#[117]⟩,.string ⟨#[122]⟩] 9;obtain⟨wA,az⟩ : ∃ x,wr.alloc (.cells #[.string ⟨#[120]⟩,.string ⟨#[121]⟩,.string ⟨#[116]⟩,.string ⟨#[117]⟩,.string ⟨#[122]⟩] 9)=x:=⟨_,rfl⟩
   rw [az] at hz;have hcA:ae [] wr wA:=by rw [← az];exact(ae.refl _ _).alloc _
   obtain⟨b27,Me⟩ : ∃ b,b=wr.heap.size:=⟨_,rfl⟩
   rw [← Me] at hz;have HZ:=zh hz;have rX:=zh (HC.out.then hcA);have ac9:=zh hcA;have uw:=zh hcq;clear xQ hq hc TI hz hcA;go_wp2_with fail;rw [← Me];clear hcq az Me
   go_loopw [3,7,8,9,10,11,12,29] (fun s _ _ _ _ _ _ i wr=>∃ (j:Nat) (T:ByteArray),s = .string T∧Hid (T=bs ((W.order.take k).flatMap (uF W) ++ q ++ (sD.take j).flatMap (uu W q)))∧T.size≤k * 1000000 + 10 + j * 20000∧i = .int .i64 j∧j≤5∧ae [] wA wr) (fun _ _ _ _ _ _ _ i _=>5 - (intOf i).toNat)
   case atStart=>exact⟨0,_,rfl,zh (by rw [HS.out,Ii.out,Er];simp),by simp;omega,rfl,by omega,ae.refl _ _⟩
   case round=>
    rename_i wr0
    obtain⟨j,T,rfl,HT,hTz,rfl,hj,hc⟩:=hrel;have aD:=zh hc;clear hc;by_cases hlt2 : j < 5
    ·obtain⟨v,hv,Gs,hvl⟩ : ∃ v,sD[j]?=some v∧wr.cell? ⟨b27,j,none⟩=some (.string (bs v))∧v.length=1:=by
      have hz:=HZ.out.kept aD.out (by simp);have : j=0∨j=1∨j=2∨j=3∨j=4:=by omega
      rcases this with rfl|rfl|rfl|rfl|rfl
      ·exact⟨[120],rfl,hz.cell 0 _ rfl,rfl⟩
      ·exact⟨[121],rfl,hz.cell 1 _ rfl,rfl⟩
      ·exact⟨[116],rfl,hz.cell 2 _ rfl,rfl⟩
      ·exact⟨[117],rfl,hz.cell 3 _ rfl,rfl⟩
      ·exact⟨[122],rfl,hz.cell 4 _ rfl,rfl⟩
     have hcw:=cZ.out.then (rX.out.then aD.out)
     have hg:=HG.out q v wr hcw;obtain⟨vb,hvb⟩ : ∃ x,x=bs v:=⟨_,rfl⟩
     rw [str,str,← Ii.out,← hvb] at hg;rw [← hvb] at Gs;have hvs : vb.size=1:=by rw [hvb,Oa];exact hvl
     have hqc : wr.cell? ⟨bb,off + k,none⟩=some (.string qb):=(ac9.out.then aD.out).aH uw.out (by simp);have Mf:=zh hg;have HV:=zh hv;have KI:=zh hvb;clear hg hv hvb hcw hvl;obtain⟨o,ho⟩ : ∃ o,o=qy W q v:=⟨_,rfl⟩
     rw [← ho] at Mf;have HO:=zh ho;clear ho;cases o with
     | none=>
      go_wp2_with fail;refine Mf.out.mono ?_;rintro _ w2 ⟨hc2,rfl⟩;have bG:=zh hc2;clear hc2;go_wp2_with fail;refine⟨⟨j + 1,_,rfl,zh ?_,?_,by go_num,by omega,aD.out.then bG.out⟩,by simp [intOf];omega⟩
      ·rw [HT.out,Ih HV.out,uu,← HO.out]
       exact(Er _ [45]).trans (by simp)
      ·have : (T ++ (⟨#[45]⟩ : ByteArray)).size=T.size + 1:=by rw [ByteArray.size_append];rfl
       omega
     | some l=>
      go_wp2_with fail;refine Mf.out.mono ?_;rintro _ w2 ⟨hc2,vl,rfl,hown,hfl,hll⟩;obtain⟨al,cl,rfl,hcl,hrl⟩:=Row.jF (F:=fun _=>True) hown (fun _ _=>trivial);have vC:=zh hrl;have bG:=zh (aD.out.then hc2);clear hown hfl hrl hc2 hqc Gs;obtain⟨T1,hT1⟩ : ∃ x,x=T ++ vb:=⟨_,rfl⟩
      obtain⟨z0,hz0⟩ : ∃ z,z=k * 1000000 + 11 + j * 20000:=⟨_,rfl⟩
      have aiz:T1.size≤z0:=by rw [hT1,ByteArray.size_append];omega
      have hz9 : z0≤20000000:=by omega
      have HZ0:=zh hz0;clear hz0;have HT1:=zh (show T1=bs ((W.order.take k).flatMap (uF W) ++ q ++ (sD.take j).flatMap (uu W q) ++ v) by rw [hT1,HT.out,KI.out,Er]);go_wp2_with fail;rw [← hT1];clear hT1
      go_loopw [3,10,11,12] (fun s i _ _ wr=>∃ (n:Nat) (U:ByteArray),s = .string U∧Hid (U=bs ((W.order.take k).flatMap (uF W) ++ q ++ (sD.take j).flatMap (uu W q) ++ v ++ (l.take n).flatMap fun x=>zT 8 (IntKind.u64.wrap x)))∧U.size≤z0 + n * 16∧i = .int .i64 n∧n≤l.length∧ae [] w2 wr) (fun _ i _ _ _=>l.length - (intOf i).toNat)
      case atStart=>exact⟨0,_,rfl,zh (by rw [HT1.out];simp),by omega,rfl,by omega,ae.refl _ _⟩
      case round=>
       rename_i wr1
       obtain⟨n,U,rfl,HU,hUz,rfl,hn,hc⟩:=hrel;have cz:=zh hc;clear hc;by_cases hlt3 : n < l.length
       ·obtain⟨x,hx⟩ : ∃ x,l[n]?=some x:=⟨l[n],List.getElem?_eq_getElem hlt3⟩
        obtain⟨b2,ac',rfl,hc⟩:=Dc (vC.out.kept cz.out (by simp)) (show n < (l.map num).length by simpa using hlt3);have hcx : wr.cell? ⟨b2,ac' + n,none⟩=some (num x):=by
         rw [hc];simp only [List.getElem_map];rw [List.getElem?_eq_getElem hlt3,Option.some.injEq] at hx;rw [hx]
        have HX:=zh hx;clear hc hx;go_wp2_with fail;clear hcx
        go_loopw [3,11,12] (fun s u i wr=>∃ (c:Nat) (V:ByteArray) (y:Int),s = .string V∧Hid (∃ lV,V=bs lV∧lV ++ zT (8 - c) y=(W.order.take k).flatMap (uF W) ++ q ++ (sD.take j).flatMap (uu W q) ++ v ++ (l.take (n + 1)).flatMap fun x=>zT 8 (IntKind.u64.wrap x))∧V.size≤z0 + n * 16 + c * 2∧u = .int .u64 y∧0≤y∧y < 18446744073709551616∧i = .int .i64 c∧c≤8∧ae [] w2 wr) (fun _ _ i _=>8 - (intOf i).toNat)
        case atStart=>
         refine⟨0,U,_,rfl,zh ⟨_,HU.out,?_⟩,by omega,rfl,?_,?_,rfl,by omega,cz.out⟩
         ·rw [Ih HX.out]
          simp
         ·exact(TF x).1
         ·exact(TF x).2
        case round=>
         rename_i wr2
         obtain⟨c,V,y,rfl,GI,hVz,rfl,hy0,hy1,rfl,hcc,hc⟩:=hrel;have cO:=zh hc;clear hc;by_cases KS : c < 8
         ·have hpc:=ac5 wr (IntKind.u64.wrap (97 + bits BinOp.and IntKind.u64 y 15) % 256) (IntKind.u64.wrap (97 + bits BinOp.and IntKind.u64 (y / 16) 15) % 256)
          obtain⟨pb,hpb⟩ : ∃ x,x=bs [UInt8.ofNat (IntKind.u64.wrap (97 + bits BinOp.and IntKind.u64 y 15) % 256).toNat,UInt8.ofNat (IntKind.u64.wrap (97 + bits BinOp.and IntKind.u64 (y / 16) 15) % 256).toNat]:=⟨_,rfl⟩
          rw [← hpb] at hpc;have hps : pb.size=2:=by rw [hpb];rfl
          have GV:=zh (show pb=bs (pairT y) from hpb);clear hpb;go_wp2_with fail;refine⟨⟨c + 1,V ++ pb,y / 256,rfl,zh ?_,?_,rfl,by omega,by omega,by go_num,by omega,cO.out.alloc _⟩,by simp [intOf];omega⟩
          ·obtain⟨lV,h1,h2⟩:=GI.out
           refine⟨lV ++ pairT y,by rw [h1,GV.out,Er],?_⟩;rw [← h2];obtain⟨d,hd⟩ : ∃ d,8 - c=d + 1:=⟨7 - c,by omega⟩
           rw [hd,show 8 - (c + 1)=d by omega,zT];simp
          ·rw [ByteArray.size_append];omega
         ·go_wp2_with fail
          refine⟨⟨n + 1,V,rfl,zh ?_,?_,by go_num,by omega,cO.out⟩,by simp [intOf];omega⟩
          ·obtain⟨lV,h1,h2⟩:=GI.out
           rw [show 8 - c=0 by omega,zT,List.append_nil] at h2;rw [h1,h2]
          ·omega
       ·go_wp2_with fail
        refine⟨⟨j + 1,U,rfl,zh ?_,?_,by go_num,by omega,bG.out.then cz.out⟩,by simp [intOf];omega⟩
        ·have e1 : l.take n=l:=List.take_of_length_le (by omega)
         rw [HU.out,Ih HV.out,uu,← HO.out,e1];simp [TE]
        ·have:=HZ0.out
         omega
    ·go_wp2_with fail
     refine⟨⟨k + 1,_,rfl,zh ?_,?_,by go_num,by omega,rX.out.then aD.out⟩,by simp [intOf];omega⟩
     ·have e1 : sD.take j=sD:=List.take_of_length_le (by show 5≤j;omega)
      rw [HT.out,Ih HQ.out,uF,e1];exact(Er _ [59]).trans (by simp)
     ·have : (T ++ (⟨#[59]⟩ : ByteArray)).size=T.size + 1:=by rw [ByteArray.size_append];rfl
      omega
  ·go_wp2_with fail
   have hS:S=bs (allT W):=by rw [HS.out,List.take_of_length_le (by omega),allT]
   rw [hS];go_ret
   exact⟨rfl,cZ.out.then HC.out⟩
end Go.Proofs.YtechofppmnnomaaGreatDoor
namespace Go.Proofs.YtechofppmnnomaaGreatDoor
open Go Go.RowKit Go.Mq Go.Mq.Tree Go.Mq.Sym Go.Mq.Run
set_option maxRecDepth 100000
set_option maxHeartbeats 4000000
theorem TJ {w:World} {F:Nat→Prop} {a:Option Addr} {l:List Int} (h:Row w F a (ints l)) {k:Nat} (hk : k < l.length) : ∃ bb off,a=some ⟨bb,off,none⟩∧w.cell? ⟨bb,off + k,none⟩=some (num l[k]):=by
 obtain⟨bb,off,rfl,hc⟩:=h.at_ (by simp;omega);exact⟨bb,off,rfl,hc k _ (by simp [hk])⟩
theorem TK (x y:List Int) (hx : x.length≤100000) (hy : y.length≤100000) (a b:Option Addr) (c d:Nat) (F G:Nat→Prop) (w:World) (ha:Row w F a (ints x)) (hb:Row w G b (ints y)) :
  Calls Tryz.prog 18 #[.slice a x.length c,.slice b y.length d] w (fun e w'=>e = .returned (.bool (decide (x=y)))∧ae [] w w'):=by
 have HA:=zh ha;have HB:=zh hb;clear ha hb;cases hlen : ((x.length:Int) != (y.length:Int)) with
 | true=>
  have hne : x≠y:=fun e=>by subst e;simp at hlen
  go_enter Tryz.func18,Tryz.ntmps18
  go_wp2_with fail;go_ret
  exact⟨by simp [hne],ae.refl _ _⟩
 | false=>
  have hll : x.length=y.length:=by
   have : (x.length:Int)=y.length:=by simpa using hlen
   omega
  have Gu:=zh hll;clear hll
  go_enter Tryz.func18,Tryz.ntmps18
  go_wp2_with fail
  go_loopw [5,13] (fun _ i wr=>∃ k:Nat,i = .int .i64 k∧k≤x.length∧ae [] w wr∧x.take k=y.take k) (fun _ i _=>x.length - (intOf i).toNat)
  case atStart=>exact⟨0,rfl,Nat.zero_le _,ae.refl _ _,by simp⟩
  case round=>
   obtain⟨k,rfl,hk,hc,hno⟩:=hrel;have pW:=zh hno;have HC:=zh hc;clear hno hc;by_cases hlt : k < x.length
   ·have hlt2 : k < y.length:=by have:=Gu.out;omega
    obtain⟨xk,hxk⟩ : ∃ z,z=x[k]:=⟨_,rfl⟩
    obtain⟨yk,hyk⟩ : ∃ z,z=y[k]:=⟨_,rfl⟩
    have hr:ae [] w wr.drew:=HC.out.drew;obtain⟨b1,o1,rfl,d1⟩:=TJ (HA.out.kept HC.out (by simp)) hlt;obtain⟨b2,o2,rfl,d2⟩:=TJ (HB.out.kept HC.out (by simp)) hlt2;rw [← hxk] at d1;rw [← hyk] at d2;have TL:=zh hxk;have TM:=zh hyk;have HR:=zh hr;clear hxk hyk hr;have hkl : k < y.length:=hlt2;cases hq : (xk != yk) with
    | true=>
     have hne : x≠y:=fun e=>by
      have h1:=TL.out;have h2:=TM.out;subst e;rw [h1,h2] at hq;simp at hq
     go_wp2_with fail
     go_region
     all_goals (try go_wp2_with fail)
     go_ret
     exact⟨by simp [hne],HR.out⟩
    | false=>
     have je : xk=yk:=by simpa using hq
     have aW:=zh je;clear je;go_wp2_with fail
     go_region
     all_goals (try go_wp2_with fail)
     refine⟨⟨k + 1,by go_num,by omega,HR.out,?_⟩,by simp [intOf];omega⟩;rw [List.take_succ_eq_append_getElem hlt,List.take_succ_eq_append_getElem hlt2,pW.out,← TL.out,← TM.out,aW.out]
   ·have hkx : k=x.length:=by omega
    have he : x=y:=by
     have h1:=pW.out;rw [hkx,List.take_length,Gu.out,List.take_length] at h1;exact h1
    go_wp2_with fail;go_ret
    exact⟨by simp [he],HC.out⟩
end Go.Proofs.YtechofppmnnomaaGreatDoor
namespace Go.Proofs.YtechofppmnnomaaGreatDoor
open Go Go.RowKit Go.Mq Go.Mq.Tree Go.Mq.Sym Go.Mq.Run
open Go.Mq.Check (check Out)
set_option maxRecDepth 100000
set_option maxHeartbeats 4000000
def ku:Out→Int
 | .fine=>0
 | .plain n=>n
 | .at_ en _=>en
theorem Es {o:Out} {v:Value} {w:World} (hg:kH w) (h:ql w o v):Calls Tryz.prog 15 #[v] w fun e w'=>e = .returned (.int .i64 (ku o))∧ae [] w w':=by
 cases o with
 | fine=>
  simp only [ql] at h;subst h;exact(ZJ w).mono fun e w' ⟨h1,h2⟩=>⟨h1,by rw [h2];exact ae.refl _ _⟩
 | plain n=>
  simp only [ql] at h;subst h;exact ZL n w hg
 | at_ en p=>
  obtain⟨b,rfl,hb⟩:=h;exact ZR en b w hg (hb.cell 0 _ rfl)
end Go.Proofs.YtechofppmnnomaaGreatDoor
namespace Go.Mq.Run
open Go Go.RowKit Go.Mq Go.Mq.Tree Go.Mq.Sym
open Classical
theorem ada {M:Ms} {a b:Nm} (h:M a=none) (hab : a≠b) : ¬ Reach M a b:=fun hr=>by
 cases hr with
 | refl=>exact hab rfl
 | step hi _=>
  obtain⟨m,hm,_⟩:=hi;rw [h] at hm;cases hm
theorem adb {M:Ms} {a b:Nm} {m:Mod} (h:M a=some m) (hab : a≠b):Reach M a b ↔ ∃ n∈m.imports,Reach M n b:=by
 constructor
 ·intro hr
  cases hr with
  | refl=>exact absurd rfl hab
  | step hi hr2=>
   obtain⟨m',hm',hx⟩:=hi;rw [h] at hm';cases hm'
   exact⟨_,hx,hr2⟩
 ·rintro⟨n,hn,hr⟩
  exact .step ⟨m,h,hn⟩ hr
noncomputable def sF (M:Ms) (a b:Nm):Bool:=decide (Reach M a b)
theorem ade {M:Ms} {a b:Nm} {m:Mod} (h:M a=some m) (hab : a≠b) : sF M a b=m.imports.any fun n=>sF M n b:=by
 rw [Bool.eq_iff_iff];simp only [sF,decide_eq_true_eq,List.any_eq_true];exact adb h hab
theorem adf {M:Ms} {a b:Nm} (h:M a=none) (hab : a≠b) : sF M a b=false:=decide_eq_false (ada h hab)
theorem adg (M:Ms) (a:Nm) : sF M a a=true:=decide_eq_true (.refl a)
end Go.Mq.Run
namespace Go.Proofs.YtechofppmnnomaaGreatDoor
open Go Go.RowKit Go.Mq Go.Mq.Tree Go.Mq.Sym Go.Mq.Run
open Go.Mq.fo (aZ getM dB jm jV mQ jo)
open Go.Mq.Check (ik lI)
set_option maxRecDepth 100000
set_option maxHeartbeats 4000000
theorem adh (cs:Array Value) (di:FuncId) (hF : ∀ (args:Array Value) (w:World),(callFunc di args).run Tryz.prog w = .ok (.enter di args) w) (l:List Nm) (hl : l.length≤1000) (f:Nm→Bool) (F:Nat→Prop) (v:Value) (w:World) (h:eF w F l v)
  (hf : ∀ x∈l,∀ w',ae [] w w'→Calls Tryz.prog di (#[str x] ++ cs) w' (fun e w''=>e = .returned (.bool (f x))∧ae [] w' w'')) :
  Calls Tryz.prog 88 #[v,.func (.func di) #[] cs] w (fun e w'=>ik l f e∧ae [] w w'):=by
 have HA:=zh h;have HF:=zh hf;obtain⟨a,c,rfl,hac,hrow⟩:=h;clear hrow hf
 go_enter Tryz.func88,Tryz.ntmps88
 go_wp2_with fail
 go_loopw [5,8] (fun _ i wr=>∃ k:Nat,i = .int .i64 k∧k≤l.length∧Hid (lI l f k∧ae [] w wr)) (fun _ i _=>l.length - (intOf i).toNat)
 case atStart=>exact⟨0,rfl,Nat.zero_le _,zh ⟨.zero,.refl _ _⟩⟩
 case round=>
  obtain⟨k,rfl,hk,HS⟩:=hrel;by_cases hlt : k < l.length
  rotate_left
  ·go_wp2_with fail
   go_ret
   exact⟨HS.out.1.all hlt,HS.out.2⟩
  obtain⟨x,hx⟩ : ∃ x,l[k]?=some x:=⟨l[k],List.getElem?_eq_getElem hlt⟩
  obtain⟨_,_,hv,_,hrow⟩:=HA.out;cases hv
  obtain⟨bb,off,rfl,d0⟩:=xe (hrow.kept HS.out.2 (by simp)) hx;clear hrow;have HI:=zh (HF.out x (List.mem_of_getElem? hx) wr HS.out.2);have HX:=zh hx;obtain⟨b,hb⟩ : ∃ b,b=f x:=⟨_,rfl⟩
  rw [← hb] at HI;have HB:=zh hb.symm;clear hx hb;go_wp2_with fail;refine HI.out.mono ?_;rintro _ w2 ⟨rfl,hq⟩;have HQ:=zh (HS.out.2.then hq);clear hq;cases b
  all_goals go_wp2_with fail
  ·exact⟨⟨k + 1,by go_num,by omega,zh ⟨HS.out.1.next HX.out HB.out,HQ.out⟩⟩,by simp [intOf];omega⟩
  ·go_ret
   exact⟨HS.out.1.here HX.out HB.out,HQ.out⟩
theorem TN (cs:Array Value) (di:FuncId) (hF : ∀ (args:Array Value) (w:World),(callFunc di args).run Tryz.prog w = .ok (.enter di args) w) (l:List Nm) (hl : l.length≤1000) (f:Nm→Bool) (F:Nat→Prop) (v:Value) (w:World) (h:eF w F l v)
  (hf : ∀ x∈l,∀ w',ae [] w w'→Calls Tryz.prog di (#[str x] ++ cs) w' (fun e w''=>e = .returned (.bool (f x))∧ae [] w' w'')) :
  Calls Tryz.prog 49 #[v,.func (.func di) #[] cs] w (fun e w'=>e = .returned (.bool (l.any f))∧ae [] w w'):=by
 have HI:=zh (adh cs di hF l hl f F v w h hf);clear h hf
 go_enter Tryz.func49,Tryz.ntmps49
 go_wp2_with fail;refine HI.out.mono ?_;rintro _ w1 ⟨hat,hc⟩;obtain⟨n,rfl,hn⟩:=hat.num;have HC:=zh hc;have HN:=zh hn;clear hc hat hn;go_wp2_with fail;go_ret
 exact⟨by rw [← HN.out] <;> rfl,HC.out⟩
theorem adi {w:World} {Own G:Nat→Prop} {bw:Nat} {W:Wd} {pv:Option Nat} {oa:Option Addr} {oc:Nat} (h:Lu w Own G bw W pv oa oc) (q:Nm) : ∃ o,(∀ w',ae [] w w'→(Instr.lookup 38 (.map pv) (str q) false).run Tryz.prog w' = .ok (.pointer o) w') ∧
  match W.M q with
  | none=>o=none
  | some m=>∃ bp L bR,pv=some bp∧Has w Own G bw W L∧ng w Own G bw W L bp (.slice oa W.order.length oc) bR∧o=some ⟨L.pb q,0,none⟩∧oI w L.Fix m (L.au q) (L.pb q):=by
 rcases h.at_ with⟨rfl,rfl,_⟩|⟨bp,L,bR,rfl,hh,ho⟩
 ·refine⟨none,fun w' hc=>?_,rfl⟩
  have:=mQ (P:=Tryz.prog) Tryz.underlying38 Tryz.underlying9 (rR w') q false
  simpa using this
 ·have:=ho.2.2.2.2.2.2 q
  cases hq:W.M q with
  | none=>
   refine⟨none,fun w' hc=>?_,rfl⟩;have hl:=jm (P:=Tryz.prog) Tryz.underlying38 Tryz.underlying9 (rR w') (ho.2.2.1.kept hc (by simp)) q;rw [hq] at this;simp only at this;rw [this] at hl;exact hl
  | some m=>
   rw [hq] at this;obtain⟨a1,a2,bv,_,a5⟩:=this;refine⟨some ⟨L.pb q,0,none⟩,fun w' hc=>?_,bp,L,bR,rfl,hh,ho,rfl,a5.mono (fun x hx=>hx.1)⟩;have hl:=jm (P:=Tryz.prog) Tryz.underlying38 Tryz.underlying9 (rR w') (ho.2.2.1.kept hc (by simp)) q;rw [a1] at hl;exact hl
theorem adk {w0:World} {Own G:Nat→Prop} {bw:Nat} {W:Wd} (h0:dZ w0 Own G bw W) (b:Nm) (a:Nm) (hacc:Acc (kg W.M) a) : ∀ w,ae [] w0 w →
  Calls Tryz.prog 51 #[ptr bw,str a,str b] w (fun e w'=>e = .returned (.bool (sF W.M a b))∧ae [] w w'):=by
 induction hacc with
 | intro a _ ih=>
  intro w hcw;have h:=h0.kept hcw (by simp);have mO : ∀ (fn:Fn) (first cap:Array Value) (w:World),(Instr.makeFunc fn first cap).run Tryz.prog w = .ok (.func fn first cap) w:=fun _ _ _ _=>rfl
  obtain⟨wA,az⟩ : ∃ x,w.alloc (.cells #[ptr bw] 50)=x:=⟨_,rfl⟩
  have pV:ag wA w.heap.size #[ptr bw] 50:=by rw [← az];exact ag.new w _ _
  have hcA:ae [] w wA:=by rw [← az];exact(ae.refl _ _).alloc _
  obtain⟨wB,fA⟩ : ∃ x,wA.alloc (.cells #[str b] 9)=x:=⟨_,rfl⟩
  have xR:ag wB wA.heap.size #[str b] 9:=by rw [← fA];exact ag.new wA _ _
  have hcB:ae [] wA wB:=by rw [← fA];exact(ae.refl _ _).alloc _
  have hcW:ae [] w wB:=hcA.then hcB
  have y0:=xR.cell 0 _ rfl;have x0:=(pV.kept hcB (by simp)).cell 0 _ rfl;cases hab : (a == b) with
  | true=>
   have e : a=b:=by simpa using hab
   subst e;have HC:=zh hcW;clear h pV hcA xR hcB hcW ih
   go_enter Tryz.func51,Tryz.ntmps51
   go_wp2_with fail;go_ret
   exact⟨by rw [adg] <;> rfl,HC.out⟩
  | false=>
   have hne : a≠b:=by simpa using hab
   obtain⟨pv,oa,oc,hfr⟩:=h.front;obtain⟨o,hlk,hat⟩:=adi hfr a;have hl:=hlk wB hcW;have b0:=(hfr.blk.kept hcW (by simp)).cell 0 _ rfl;cases hq:W.M a with
   | none=>
    rw [hq] at hat;simp only at hat;subst hat;have HR:=zh (adf hq hne);have HC:=zh hcW;clear h hfr hlk hq pV hcA xR hcB hcW ih hne
    go_enter Tryz.func51,Tryz.ntmps51
    go_wp2_with fail;go_ret
    exact⟨by rw [HR.out] <;> rfl,HC.out⟩
   | some m=>
    rw [hq] at hat;obtain⟨bp,L,bR,rfl,hhas,fZ,rfl,iX⟩:=hat;obtain⟨_,dK,ai,ci,av,cv,ap,cp,ab,cb,fD,es,hp3,hmod,_,_,_⟩:=iX.kept hcW (by simp);obtain⟨vi,vv,vp,vb,nQ,hni,_,_,_⟩:=hmod;cases nQ
    have p1:=hp3.cell 1 _ rfl;have HR:=zh (ade hq hne);have HC:=zh hcW;have TP:=pV.kept hcB (by simp);have dM:=zh (TN #[ptr w.heap.size,ptr wA.heap.size] 89 (fun _ _=>rfl) m.imports dK.imports (fun n=>sF W.M n b) _ _ wB hni (fun n hn w' hc=>by
     have z0:=(TP.kept hc (by simp)).cell 0 _ rfl;have z1:=(xR.kept hc (by simp)).cell 0 _ rfl;have HI:=zh (ih n ⟨m,hq,hn⟩ w' (hcw.then (hcW.then hc)));clear ih
     go_enter Tryz.func89,Tryz.ntmps89
     go_wp2_with fail;refine HI.out.mono ?_;rintro _ w2 ⟨rfl,hc2⟩;go_wp2_with fail;go_ret
     exact⟨rfl,hc2⟩))
    have hnn : ∀ w,(binOp BinOp.neq 94 (ptr (L.pb a)) aJ).run Tryz.prog w = .ok (.bool true) w:=fun _=>rfl
    clear h hfr hlk hq pV hcA xR hcB hcW ih hne iX hp3 hni dK hhas fZ TP
    go_enter Tryz.func51,Tryz.ntmps51
    go_wp2_with fail;refine dM.out.mono ?_;rintro _ w2 ⟨rfl,hc2⟩;have aD:=zh (HC.out.then hc2);clear hc2;go_wp2_with fail;go_ret
    exact⟨by rw [HR.out] <;> rfl,aD.out⟩
end Go.Proofs.YtechofppmnnomaaGreatDoor
namespace Go.Mq.Run
open Go Go.RowKit Go.Mq Go.Mq.Tree Go.Mq.Sym
open Go.Mq.Check (fI cu bK dx)
open Go.Mq.fo (aZ getM dB mP)
open Go.Proofs.YtechofppmnnomaaGreatDoor (kK)
structure qz (w:World) (lo b:Nat) (f:Nm→Option (List Int)) (au:Nm→Option (Nat × Nat)) (ay:List Nat):Prop where
 map : ∃ es,aZ w b es ∧ ∀ n,getM es n=(au n).map fun x=>.slice (some ⟨x.1,0,none⟩) x.2 x.2
 inj : ∀ {n k n' k' a},au n=some (a,k)→au n'=some (a,k')→n=n'
 arr : ∀ {n a k},au n=some (a,k)→a∈ay∧1≤k∧k≤1000
 low : ∀ {a},a∈ay→lo≤a∧a < w.heap.size ∧ ∃ cs,ag w a cs bO
 is : ∀ n,match au n with
  | some x=>∃ l,f n=some l∧l.length=x.2∧ag w x.1 (ints l).toArray bO
  | none=>f n=none
theorem qz.of {w:World} {lo b:Nat} {l:List bJ} {au:Nm→Option (Nat × Nat)} {ay:List Nat} (h:kK w lo b l au ay):qz w lo b (jf l) au ay:=
 ⟨h.map,h.inj,h.arr,fun ha=>by obtain⟨h1,h2,k,h3⟩:=h.low ha;exact⟨h1,h2,_,h3⟩,fun n=>by
  have:=h.is n;cases hd : au n with
  | none=>rw [hd] at this;exact this
  | some x=>rw [hd] at this;exact⟨_,this.1,by simp [zeros],this.2⟩⟩
theorem qz.kept {w w':World} {lo b:Nat} {f:Nm→Option (List Int)} {au:Nm→Option (Nat × Nat)} {ay:List Nat} {Z:List Nat} (h:qz w lo b f au ay) (hc:ae Z w w') (hZ : ∀ x∈Z,x≠b∧x∉ay):qz w' lo b f au ay:=by
 obtain⟨es,h1,h2⟩:=h.map;refine⟨⟨es,h1.kept hc (fun hm=>(hZ b hm).1 rfl),h2⟩,h.inj,h.arr,fun ha=>?_,fun n=>?_⟩
 ·obtain⟨h3,h4,k,h5⟩:=h.low ha
  exact⟨h3,by have:=hc.size;omega,k,h5.kept hc (fun hm=>(hZ _ hm).2 ha)⟩
 ·have:=h.is n
  cases hd : au n with
  | none=>rw [hd] at this;exact this
  | some x=>
   rw [hd] at this;obtain⟨l,h3,h4,h5⟩:=this;exact⟨l,h3,h4,h5.kept hc (fun hm=>(hZ _ hm).2 (h.arr (show au n=some (x.1,x.2) from hd)).1)⟩
theorem qz.put {w w':World} {lo b:Nat} {f:Nm→Option (List Int)} {au:Nm→Option (Nat × Nat)} {ay:List Nat} (h:qz w lo b f au ay) {n:Nm} {a k:Nat} (hd : au n=some (a,k)) (hc:ae [a] w w') {l:List Int} (hl : l.length=k) (hb:ag w' a (ints l).toArray bO):qz w' lo b (fun n'=>if n'=n then some l else f n') au ay:=by
 obtain⟨es,h1,h2⟩:=h.map;have hab : a≠b:=fun e=>by
  obtain⟨_,_,cs,h3⟩:=h.low (h.arr hd).1;obtain⟨arr,clock,h4,_⟩:=h1
  unfold ag at h3
  rw [e,h4] at h3;cases h3
 refine⟨⟨es,h1.kept hc (fun hm=>by simp at hm;exact hab hm.symm),h2⟩,h.inj,h.arr,fun {x} hx=>?_,fun n'=>?_⟩
 ·obtain⟨h3,h4,cs,h5⟩:=h.low hx
  refine⟨h3,by have:=hc.size;omega,?_⟩;by_cases hxa : x=a
  ·subst hxa;exact⟨_,hb⟩
  ·exact⟨cs,h5.kept hc (by simpa using hxa)⟩
 ·by_cases hn : n'=n
  ·subst hn
   rw [hd];exact⟨l,if_pos rfl,hl,hb⟩
  ·have:=h.is n'
   cases hd' : au n' with
   | none=>rw [hd'] at this;simpa [hn] using this
   | some x=>
    rw [hd'] at this;obtain⟨l',h3,h4,h5⟩:=this;refine⟨l',by simpa [hn] using h3,h4,h5.kept hc (fun hm=>?_)⟩;simp at hm
    exact hn (h.inj (show au n'=some (a,x.2) by rw [hd',← hm]) hd)
def Lay.swap (L:Lay) (m:Mod) (Gm:Nat→Prop) (bv:Nat) (au:Nm→Option (Nat × Nat)) (ay:List Nat):Lay:=
 ⟨fun x=>L.Fix x∨Gm x∨x=bv,bT L.M m,fun q=>if q=m.name then au else L.au q,L.pb,L.bw,L.br,L.ay ++ ay⟩
theorem Has.swap {w wS:World} {Own Own' G Gm:Nat→Prop} {bw:Nat} {W:Wd} {L:Lay} {m old:Mod} {lo bv bp:Nat} {ov:Value} {bR:List (Nm × Value)} {au:Nm→Option (Nat × Nat)} {ay:List Nat} {ai av ap ab:Option Addr} {ci cv cp cb:Nat}
  (h:Has w Own G bw W L) (D7 : ∀ x,Own x→¬ G x∧¬ Gm x) (hlow : ∀ x,Own x∨G x∨Gm x→x < lo) (hlo : lo≤w.heap.size) (hold:W.M m.name=some old) (dK:fI m)
  (hor:ng w Own G bw W L bp ov bR)
  (hc:ae [L.pb m.name] w wS)
  (iX:ag wS (L.pb m.name) #[str m.name,.slice ai m.imports.length ci,.slice av m.vars.length cv,.slice ap m.procs.length cp,.slice ab m.body.len cb,.map (some bv)] 102)
  (hmod:gY wS Gm m (.agg #[str m.name,.slice ai m.imports.length ci,.slice av m.vars.length cv,.slice ap m.procs.length cp,.slice ab m.body.len cb]))
  (hva:qz wS lo bv (jD W.vs old m m.name) au ay) (hlb : lo≤bv)
  (hO : ∀ x,Own x→Own' x) (hO2 : ∀ x,lo≤x→x < wS.heap.size→Own' x) :
  Has wS Own' (fun x=>G x∨Gm x) bw ⟨bT W.M m,jD W.vs old m,W.order⟩ (L.swap m Gm bv au ay):=by
 obtain⟨h1,h2,h3,h4,h5,h6,h7⟩:=hor;have hq0:=h7 m.name;rw [hold] at hq0;obtain⟨_,hpo,TQ,⟨_,aiD,_⟩,Et⟩:=hq0;have sW:L.Fix (L.pb m.name):=Et.own.1;have sG : ∃ cs,ag w (L.pb m.name) cs 102:=by
  obtain⟨_,_,ai,ci,av,cv,ap,cp,ab,cb,bv,es,h3,_⟩:=Et;exact⟨_,h3⟩
 obtain⟨uO,sG⟩:=sG;have D8 : ∀ x,L.Fix x→x < lo:=fun x hx=>by
  rcases h.fix x hx with h1|h1
  ·exact hlow x (.inl h1)
  ·exact hlow x (.inr (.inl h1))
 have jg:=h.home.lay w.heap.size (Nat.le_refl _);have hal : ∀ x∈L.ay,¬ L.Fix x∧x < lo∧Own x:=fun x hx=>⟨(jg.ay hx).1,hlow x (.inl (h.ay x hx)),h.ay x hx⟩
 have hs:=hc.size;have D9 : bv < wS.heap.size:=by obtain⟨es,hm,_⟩:=hva.map;exact hm.lt
 have Lp : bv∉ay:=fun hm=>by
  obtain⟨_,_,cs,hk⟩:=hva.low hm;obtain⟨es,⟨arr,clock,hmm,_⟩,_⟩:=hva.map
  unfold ag at hk
  rw [hk] at hmm;cases hmm
 have TR : ∀ {b:Nat} {es:List (Nm × Value)},aZ w b es→b≠L.pb m.name:=fun {b es} hm e=>by
  obtain⟨arr,clock,hmm,_⟩:=hm
  unfold ag at sG
  rw [← e,hmm] at sG;cases sG
 have Ea : ∀ q,(L.swap m Gm bv au ay).M q=bT W.M m q:=fun q=>by rw [← h.M];rfl
 have adl : bw≠L.pb m.name:=fun e=>by
  unfold ag at sG h1
  rw [← e,h1] at sG;simp at sG
 have adm:L.pb m.name∉blk ov:=fun hm=>by
  rcases h2.2 with⟨rfl,_⟩|⟨g,cap,cur,rfl,_,hg,_⟩
  ·cases hm
  ·simp [blk] at hm;unfold ag at sG;rw [hm,hg] at sG;simp at sG
 have TS:=h1.kept hc (by simpa using adl);have h2S:=cK h2 hc (fun g hg hm=>by simp at hm;subst hm;exact adm hg);have TT:=h3.kept hc (by simpa using TR h3);have G6:L.Fix bw:=by rw [← h.lg];exact h.home.stat.own
 have Ij : ∀ q n x,(L.swap m Gm bv au ay).au q n=some x→(q=m.name∧au n=some x)∨(q≠m.name∧L.au q n=some x):=fun q n x hx=>by
  by_cases hqm : q=m.name
  ·exact .inl ⟨hqm,by simpa [Lay.swap,hqm] using hx⟩
  ·exact .inr ⟨hqm,by simpa [Lay.swap,hqm] using hx⟩
 have hsame : ∀ q,q≠m.name→(bT W.M m q=W.M q∧(L.swap m Gm bv au ay).au q=L.au q):=fun q hq=>⟨by simp [bT,hq],by simp [Lay.swap,hq]⟩
 have hown : bT W.M m m.name=some m∧(L.swap m Gm bv au ay).au m.name=au:=⟨by simp [bT],by simp [Lay.swap]⟩;have hget : ∀ q,(W.M q).isSome=(bT W.M m q).isSome:=fun q=>by
  by_cases hq : q=m.name
  ·subst hq;rw [hown.1,hold];rfl
  ·rw [(hsame q hq).1]
 have hpn:oI wS (fun x=>Gm x∨x=L.pb m.name∨x=bv) m au (L.pb m.name):=by
  obtain⟨es,hm,hes⟩:=hva.map;exact⟨.inr (.inl rfl),dK,ai,ci,av,cv,ap,cp,ab,cb,bv,es,iX,hmod.mono (fun x hx=>.inl hx),.inr (.inr rfl),hm,hes⟩
 have hparts : ∀ q,match bT W.M m q with
   | none=>getM bR q=none
   | some mq=>getM bR q=some (ptr (L.pb q))∧Own' (L.pb q) ∧ ∃ fD,(Own' fD∧(L.swap m Gm bv au ay).Fix fD∧fD≠bp ∧ ∃ es,aZ wS fD es)∧oI wS (fun x=>(L.swap m Gm bv au ay).Fix x∧((G x∨Gm x)∨x=L.pb q∨x=fD)) mq ((L.swap m Gm bv au ay).au q) (L.pb q):=fun q=>by
  by_cases hqm : q=m.name
  ·subst hqm
   rw [hown.1,hown.2];have:=h7 m.name;rw [hold] at this;have Rj:=hlow bp (.inl h6);refine⟨this.1,hO _ hpo,bv,⟨hO2 bv hlb D9,.inr (.inr rfl),by omega,by obtain⟨es,hm,_⟩:=hva.map;exact⟨es,hm⟩⟩,hpn.mono (fun x hx=>?_)⟩;rcases hx with hx|rfl|rfl
   ·exact⟨.inr (.inl hx),.inl (.inr hx)⟩
   ·exact⟨.inl sW,.inr (.inl rfl)⟩
   ·exact⟨.inr (.inr rfl),.inr (.inr rfl)⟩
  ·rw [(hsame q hqm).1,(hsame q hqm).2]
   have:=h7 q;cases hq:W.M q with
   | none=>rw [hq] at this;exact this
   | some mq=>
    rw [hq] at this;obtain⟨a1,a2,fD,⟨a3,a4,a6,es,a7⟩,a5⟩:=this;have hv':=TR a7;refine⟨a1,hO _ a2,fD,⟨hO _ a3,.inl a4,a6,es,a7.kept hc (by simpa using hv')⟩,(a5.kept hc (fun x hx hf=>?_)).mono (fun x hx=>⟨.inl hx.1,by
     rcases hx.2 with h|h
     ·exact .inl (.inl h)
     ·exact .inr h⟩)⟩
    simp at hx
    subst hx;rcases hf.2 with hf|hf|hf
    ·exact(D7 _ hpo).1 hf
    ·exact hqm (h.inj q m.name (by rw [hq];rfl) (by rw [hold];rfl) hf.symm)
    ·exact hv' hf.symm
 have Ls : ∀ br,wS.heap.size≤br→CS { L.swap m Gm bv au ay with br:=br }:=fun br hbr=>by
  have hl:=h.home.lay br (by omega);refine⟨fun {q n a k q' n' k'} h1 h2=>?_,fun {q n a k} h1=>?_,fun {a} ha=>?_,fun {x} hx=>?_,fun {q n a k} h1=>?_⟩
  ·rcases Ij q n _ h1 with⟨e1,d1⟩|⟨e1,d1⟩ <;> rcases Ij q' n' _ h2 with⟨e2,d2⟩|⟨e2,d2⟩
   ·exact⟨by rw [e1,e2],hva.inj d1 d2⟩
   ·have:=(hal a (jg.arr d2).1).2.1;have:=(hva.low (hva.arr d1).1).1;omega
   ·have:=(hal a (jg.arr d1).1).2.1;have:=(hva.low (hva.arr d2).1).1;omega
   ·exact jg.inj d1 d2
  ·rcases Ij q n _ h1 with⟨_,d1⟩|⟨_,d1⟩
   ·obtain⟨h3,h4⟩:=hva.arr d1;exact⟨List.mem_append_right _ h3,h4⟩
   ·obtain⟨h3,h4⟩:=jg.arr d1;exact⟨List.mem_append_left _ h3,h4⟩
  ·rcases List.mem_append.1 ha with ha|ha
   ·obtain⟨h3,h4,h5'⟩:=hal a ha
    refine⟨fun hf=>?_,by show a < br;omega⟩;rcases hf with hf|hf|hf
    ·exact h3 hf
    ·exact(D7 a h5').2 hf
    ·subst hf;omega
   ·obtain⟨h3,h4,_⟩:=hva.low ha
    refine⟨fun hf=>?_,by show a < br;omega⟩;rcases hf with hf|hf|hf
    ·have:=D8 a hf;omega
    ·have:=hlow a (.inr (.inr hf));omega
    ·exact Lp (hf ▸ ha)
  ·show x < br
   rcases hx with hf|hf|hf
   ·have:=D8 x hf;omega
   ·have:=hlow x (.inr (.inr hf));omega
   ·subst hf;omega
  ·show (bT L.M m q).isSome
   rcases Ij q n _ h1 with⟨e1,_⟩|⟨e1,d1⟩
   ·simp [bT,e1]
   ·have:=jg.there d1
    simpa [bT,e1] using this
 have Lt:yL wS (L.swap m Gm bv au ay).au (jD W.vs old m):=fun q n=>by
  by_cases hqm : q=m.name
  ·subst hqm
   rw [hown.2];have:=hva.is n;cases hd : au n with
   | none=>rw [hd] at this;exact this
   | some x=>rw [hd] at this;exact this
  ·rw [(hsame q hqm).2]
   have e4 : jD W.vs old m q n=W.vs q n:=by simp [jD,hqm]
   rw [e4];exact(h.home.dyn.kept hc (fun q n b k hd hm=>by simp at hm;subst hm;exact(jg.ay (jg.arr hd).1).1 sW)) q n
 refine⟨h.lg,by funext q;exact Ea q,fun x hx=>?_,fun x hx=>?_,⟨Ls,⟨.inl (by show L.Fix L.bw;rw [h.lg];exact G6),bp,_,ov,by show ag wS L.bw _ _;rw [h.lg];exact TS,.inl h5,TT,fun q=>?_⟩,Lt,fun {a} ha=>?_⟩,⟨bp,ov,_,TS,h2S,TT,fun g hg=>⟨.inl (h4 g hg).1,hO g (h4 g hg).2⟩,.inl h5,hO _ h6,hparts⟩,fun q q' h1 h2 he=>h.inj q q' (by rw [hget q];exact h1) (by rw [hget q'];exact h2) he⟩
 ·rcases hx with hf|hf|hf
  ·rcases h.fix x hf with h1|h1
   ·exact .inl (hO x h1)
   ·exact .inr (.inl h1)
  ·exact .inr (.inr hf)
  ·subst hf;exact .inl (hO2 _ hlb D9)
 ·rcases List.mem_append.1 hx with hx|hx
  ·exact hO x (h.ay x hx)
  ·obtain⟨h3,h4,_⟩:=hva.low hx
   exact hO2 x h3 h4
 ·have:=hparts q
  rw [← Ea q] at this;cases hq : (L.swap m Gm bv au ay).M q with
  | none=>rw [hq] at this;exact this
  | some mq=>
   rw [hq] at this;obtain⟨a1,_,fD,_,a5⟩:=this;exact⟨a1,a5.mono (fun x hx=>hx.1)⟩
 ·rcases List.mem_append.1 ha with ha|ha
  ·obtain⟨cs,f,hh⟩:=h.home.oJ ha
   exact⟨cs,f,by rw [hc.block _ (Array.getElem?_eq_some_iff.1 hh).1 (fun hm=>by simp at hm;subst hm;exact(hal _ ha).1 sW)];exact hh⟩
  ·obtain⟨_,_,cs,hk⟩:=hva.low ha
   exact⟨_,_,hk⟩
end Go.Mq.Run
namespace Go.Proofs.YtechofppmnnomaaGreatDoor
open Go Go.RowKit Go.Mq Go.Mq.Tree Go.Mq.Sym Go.Mq.Run
set_option maxRecDepth 100000
set_option maxHeartbeats 4000000
theorem ado (g x:bJ) (b15:Nat) (w:World) (hb:ag w b15 #[str g.name,num g.pos,num g.len,.bool g.seen] 68) :
  Calls Tryz.prog 55 #[.agg #[str x.name,num x.pos,num x.len,.bool x.seen],ptr b15] w (fun e w'=>e = .returned (.bool (x.name == g.name && x.len == g.len))∧ae [] w w'):=by
 have z:=ag.new w #[str x.name,num x.pos,num x.len,.bool x.seen] 68;have hb':=hb.kept ((ae.refl [] w).alloc (.cells #[str x.name,num x.pos,num x.len,.bool x.seen] 68)) (by simp);have z0:=z.cell 0 _ rfl;have z2:=z.cell 2 _ rfl;have g0:=hb'.cell 0 _ rfl;have g2:=hb'.cell 2 _ rfl;clear hb z hb';cases hq : (x.name == g.name) <;> cases hq2 : (x.len == g.len)
 all_goals
  go_enter Tryz.func55,Tryz.ntmps55
  go_wp2_with fail
  all_goals go_ret
  all_goals exact⟨rfl,(ae.refl _ _).alloc _⟩
end Go.Proofs.YtechofppmnnomaaGreatDoor
namespace Go.Mq.Run
open Go Go.RowKit Go.Mq Go.Mq.Tree Go.Mq.Sym
open Go.Mq.Check (CX)
structure Ac where
 what:Int
 text:List UInt8
 name:List UInt8
 proc:List UInt8
 args:List Int
 ad:Option Addr
 cap:Nat
def Ac.cells (x:Ac):List Value:=[num x.what,str x.text,str x.name,str x.proc,.slice x.ad x.args.length x.cap]
structure Eu (w:World) (F:Nat→Prop) (l:List Ac) (a:Option Addr):Prop where
 row:Row w F a (l.flatMap Ac.cells)
 args : ∀ x∈l,x.args.length≤x.cap∧Row w F x.ad (ints x.args)
theorem Eu.kept {Z:List Nat} {w w':World} {F:Nat→Prop} {l:List Ac} {a:Option Addr} (h:Eu w F l a) (hc:ae Z w w') (hZ : ∀ x∈Z,¬ F x):Eu w' F l a:=
 ⟨h.row.kept hc hZ,fun x hx=>⟨(h.args x hx).1,(h.args x hx).2.kept hc hZ⟩⟩
theorem flat5 : ∀ l:List Ac,(l.flatMap Ac.cells).length=l.length * 5
 | []=>rfl
 | x :: r=>by rw [List.flatMap_cons,List.length_append,flat5 r];simp [Ac.cells];omega
theorem Ev {w:World} {F:Nat→Prop} {a:Option Addr} {l:List Ac} (h:Row w F a (l.flatMap Ac.cells)) {k:Nat} {g:Ac} (hk : l[k]?=some g) :
  ∃ bb off,a=some ⟨bb,off,none⟩∧w.cell? ⟨bb,off + k * 5,none⟩=some (num g.what)∧w.cell? ⟨bb,off + k * 5 + 1,none⟩=some (str g.text)∧w.cell? ⟨bb,off + k * 5 + 2,none⟩=some (str g.name)∧w.cell? ⟨bb,off + k * 5 + 3,none⟩=some (str g.proc)∧w.cell? ⟨bb,off + k * 5 + 4,none⟩=some (.slice g.ad g.args.length g.cap):=by
 obtain⟨h1,h2⟩:=CX hk;have hn : 0 < (l.flatMap Ac.cells).length:=by rw [flat5];have:=(List.getElem?_eq_some_iff.1 hk).1;omega
 obtain⟨bb,off,rfl,hc⟩:=h.at_ hn;have hg : ∀ i v,g.cells[i]?=some v→w.cell? ⟨bb,off + k * 5 + i,none⟩=some v:=fun i v hv=>by
  have:=hc (k * 5 + i) v (by
   rw [h1,List.flatMap_append,List.flatMap_cons,List.getElem?_append_right (by rw [flat5,h2];omega),flat5,h2,show k * 5 + i - k * 5=i by omega,List.getElem?_append_left (List.getElem?_eq_some_iff.1 hv).1];exact hv)
  rw [← Nat.add_assoc] at this;exact this
 exact⟨bb,off,rfl,hg 0 _ rfl,hg 1 _ rfl,hg 2 _ rfl,hg 3 _ rfl,hg 4 _ rfl⟩
def xS (x:Ac):Bool:=decide (1000 < x.text.length) || decide (40 < x.name.length) || decide (40 < x.proc.length) || decide (10 < x.args.length)
def xU (l:List Ac):Bool:=decide (l.length≤12) && !(l.any xS)
end Go.Mq.Run
namespace Go.Proofs.YtechofppmnnomaaGreatDoor
open Go Go.RowKit Go.Mq Go.Mq.Tree Go.Mq.Sym Go.Mq.Run
open Go.Mq.Check (ik lI)
set_option maxRecDepth 100000
set_option maxHeartbeats 4000000
theorem adp (cs:Array Value) (di:FuncId) (hF : ∀ (args:Array Value) (w:World),(callFunc di args).run Tryz.prog w = .ok (.enter di args) w) (l:List Ac) (hl : l.length≤1000) (f:Ac→Bool) (F:Nat→Prop) (a:Option Addr) (c:Nat) (w:World) (h:Row w F a (l.flatMap Ac.cells))
  (hf : ∀ x∈l,∀ w',ae [] w w'→Calls Tryz.prog di (#[.agg #[num x.what,str x.text,str x.name,str x.proc,.slice x.ad x.args.length x.cap]] ++ cs) w' (fun e w''=>e = .returned (.bool (f x))∧ae [] w' w'')) :
  Calls Tryz.prog 47 #[.slice a l.length c,.func (.func di) #[] cs] w (fun e w'=>ik l f e∧ae [] w w'):=by
 have HA:=zh h;have HF:=zh hf;clear h hf
 go_enter Tryz.func47,Tryz.ntmps47
 go_wp2_with fail
 go_loopw [5,8] (fun _ i wr=>∃ k:Nat,i = .int .i64 k∧k≤l.length∧Hid (lI l f k∧ae [] w wr)) (fun _ i _=>l.length - (intOf i).toNat)
 case atStart=>exact⟨0,rfl,Nat.zero_le _,zh ⟨.zero,.refl _ _⟩⟩
 case round=>
  obtain⟨k,rfl,hk,HS⟩:=hrel;by_cases hlt : k < l.length
  rotate_left
  ·go_wp2_with fail
   go_ret
   exact⟨HS.out.1.all hlt,HS.out.2⟩
  obtain⟨x,hx⟩ : ∃ x,l[k]?=some x:=⟨l[k],List.getElem?_eq_getElem hlt⟩
  obtain⟨bb,off,rfl,d0,d1,d2,d3,d4⟩:=Ev (HA.out.kept HS.out.2 (by simp)) hx;have HI:=zh (HF.out x (List.mem_of_getElem? hx) wr HS.out.2);have HX:=zh hx;obtain⟨b,hb⟩ : ∃ b,b=f x:=⟨_,rfl⟩
  rw [← hb] at HI;have HB:=zh hb.symm;clear hx hb;go_wp2_with fail;refine HI.out.mono ?_;rintro _ w2 ⟨rfl,hq⟩;have HQ:=zh (HS.out.2.then hq);clear hq;cases b
  all_goals go_wp2_with fail
  ·exact⟨⟨k + 1,by go_num,by omega,zh ⟨HS.out.1.next HX.out HB.out,HQ.out⟩⟩,by simp [intOf];omega⟩
  ·go_ret
   exact⟨HS.out.1.here HX.out HB.out,HQ.out⟩
theorem adq (cs:Array Value) (di:FuncId) (hF : ∀ (args:Array Value) (w:World),(callFunc di args).run Tryz.prog w = .ok (.enter di args) w) (l:List Ac) (hl : l.length≤1000) (f:Ac→Bool) (F:Nat→Prop) (a:Option Addr) (c:Nat) (w:World) (h:Row w F a (l.flatMap Ac.cells))
  (hf : ∀ x∈l,∀ w',ae [] w w'→Calls Tryz.prog di (#[.agg #[num x.what,str x.text,str x.name,str x.proc,.slice x.ad x.args.length x.cap]] ++ cs) w' (fun e w''=>e = .returned (.bool (f x))∧ae [] w' w'')) :
  Calls Tryz.prog 20 #[.slice a l.length c,.func (.func di) #[] cs] w (fun e w'=>e = .returned (.bool (l.any f))∧ae [] w w'):=by
 have HI:=zh (adp cs di hF l hl f F a c w h hf);clear h hf
 go_enter Tryz.func20,Tryz.ntmps20
 go_wp2_with fail;refine HI.out.mono ?_;rintro _ w1 ⟨hat,hc⟩;obtain⟨n,rfl,hn⟩:=hat.num;have HC:=zh hc;have HN:=zh hn;clear hc hat hn;go_wp2_with fail;go_ret
 exact⟨by rw [← HN.out] <;> rfl,HC.out⟩
theorem adr (x:Ac) (w:World) (ht : x.text.length≤9223372036854775807) (hn : x.name.length≤9223372036854775807) (hp : x.proc.length≤9223372036854775807) (hr : x.args.length≤9223372036854775807) :
  Calls Tryz.prog 46 #[.agg #[num x.what,str x.text,str x.name,str x.proc,.slice x.ad x.args.length x.cap]] w (fun e w'=>e = .returned (.bool (xS x))∧ae [] w w'):=by
 have z:=ag.new w #[num x.what,str x.text,str x.name,str x.proc,.slice x.ad x.args.length x.cap] 57;have z1:=z.cell 1 _ rfl;have z2:=z.cell 2 _ rfl;have z3:=z.cell 3 _ rfl;have z4:=z.cell 4 _ rfl;clear z
 go_enter Tryz.func46,Tryz.ntmps46
 go_wp2_with fail
 all_goals go_ret
 all_goals refine⟨?_,(ae.refl _ _).alloc _⟩
 all_goals
  show Ending.returned (Value.bool _)=Ending.returned (Value.bool (xS x))
  congr 2
  simp only [xS];have e1 : ((1000:Int) < (x.text.length:Int))↔1000 < x.text.length:=by omega
  have e2 : ((40:Int) < (x.name.length:Int))↔40 < x.name.length:=by omega
  have e3 : ((40:Int) < (x.proc.length:Int))↔40 < x.proc.length:=by omega
  have e4 : ((10:Int) < (x.args.length:Int))↔10 < x.args.length:=by omega
  simp_all
theorem ads (l:List Ac) (hl : l.length≤9223372036854775807) (F:Nat→Prop) (a:Option Addr) (c:Nat) (w:World) (hrow:Row w F a (l.flatMap Ac.cells))
  (hf : ∀ x∈l,x.text.length≤9223372036854775807∧x.name.length≤9223372036854775807∧x.proc.length≤9223372036854775807∧x.args.length≤9223372036854775807) :
  Calls Tryz.prog 19 #[.slice a l.length c] w (fun e w'=>e = .returned (.bool (xU l))∧ae [] w w'):=by
 by_cases hx : l.length≤12
 rotate_left
 ·have h1 : decide (l.length≤12)=false:=by simpa using hx
  have HS:=zh (show xU l=(decide (l.length≤12) && !(l.any xS)) from rfl);rw [h1] at HS;clear hrow hf
  go_enter Tryz.func19,Tryz.ntmps19
  go_wp2_with fail;go_ret
  exact⟨by rw [HS.out] <;> rfl,ae.refl _ _⟩
 ·have h1 : decide (l.length≤12)=true:=by simpa using hx
  have HS:=zh (show xU l=(decide (l.length≤12) && !(l.any xS)) from rfl);rw [h1] at HS;have HC:=zh (adq #[] 46 (fun _ _=>rfl) l (by omega) xS F a c w hrow (fun x hx w' hc=>by
   obtain⟨f1,f2,f3,f4⟩:=hf x hx;exact adr x w' f1 f2 f3 f4))
  clear hrow hf
  go_enter Tryz.func19,Tryz.ntmps19
  go_wp2_with fail;refine HC.out.mono ?_;rintro _ w1 ⟨rfl,hc⟩;have cZ:=zh hc;clear hc;go_wp2_with fail;go_ret
  exact⟨by rw [HS.out] <;> simp,cZ.out⟩
end Go.Proofs.YtechofppmnnomaaGreatDoor
namespace Go.Mq.Run
open Go Go.RowKit Go.Mq Go.Mq.Tree Go.Mq.Sym
open Go.Mq.Check (check Out)
def up (n:Nat) (s:St):St:={ s with fuel:=s.fuel + n }
def yH {α:Type} (s:St) (o:O α):Prop:=match o with
 | .ok _ s'=>s.out <+: s'.out
 | .stop _ s'=>s.out <+: s'.out
 | .stuck=>True
def nW {α:Type} (n:Nat) (a b:O α):Prop:=match a with
 | .ok x s=>b = .ok x (up n s)
 | .stop w s=>if w=5 then yH s b else b = .stop w (up n s)
 | .stuck=>True
structure gH {α:Type} (n:Nat) (f:St→O α):Prop where
 mo : ∀ s,nW n (f s) (f (up n s))
 al : ∀ s,Al (fun s s'=>s.out <+: s'.out) s (f s)
variable {n:Nat}
theorem gH.bind {α β:Type} {f:St→O α} {g : α→St→O β} (hf:gH n f) (hg : ∀ x,gH n (g x)):gH n (fun s=>(f s).bind g) where
 al s:=Al.bind Dz (hf.al s) fun a s'=>(hg a).al s'
 mo s:=by
  have h:=hf.mo s
  show nW n ((f s).bind g) ((f (up n s)).bind g)
  cases hfs : f s with
  | stuck=>trivial
  | ok x s1=>
   rw [hfs] at h;have h : f (up n s) = .ok x (up n s1):=h;rw [h];exact(hg x).mo s1
  | stop w s1=>
   rw [hfs] at h;by_cases hw : w=5
   ·subst hw
    have h:yH s1 (f (up n s)):=h
    show yH s1 ((f (up n s)).bind g)
    cases hb : f (up n s) with
    | stuck=>trivial
    | stop w2 s2=>rw [hb] at h;exact h
    | ok x s2=>
     rw [hb] at h;have h : s1.out <+: s2.out:=h;have h2:=(hg x).al s2
     show yH s1 (g x s2)
     cases hx : g x s2 with
     | stuck=>trivial
     | stop w3 s3=>rw [hx] at h2;exact List.IsPrefix.trans h h2
     | ok y s3=>rw [hx] at h2;exact List.IsPrefix.trans h h2
   ·have h : f (up n s) = .stop w (up n s1):=by simpa [nW,hw] using h
    rw [h];simp [nW,hw,O.bind]
theorem gH.ok {α:Type} (x : α):gH n (fun s=>.ok x s):=⟨fun _=>rfl,fun _=>List.prefix_rfl⟩
theorem gH.stop {α:Type} (w:Nat) (hw : w≠5):gH n (fun s=>(.stop w s:O α)):=⟨fun s=>by simp [nW,hw],fun _=>List.prefix_rfl⟩
theorem gH.stuck {α:Type} : gH n (fun _=>(.stuck:O α)):=⟨fun _=>trivial,fun _=>trivial⟩
theorem gH.ite {α:Type} (c:Prop) [Decidable c] {f g:St→O α} (hf:gH n f) (hg:gH n g):gH n (fun s=>if c then f s else g s):=by
 by_cases h : c
 ·simpa only [if_pos h] using hf
 ·simpa only [if_neg h] using hg
theorem zU:gH n tick where
 al s:=oQ Dz s
 mo s:=by
  unfold tick
  by_cases h : s.fuel=0
  ·rw [if_pos h]
   show yH s _
   split
   ·exact List.prefix_rfl
   ·exact List.prefix_rfl
  ·rw [if_neg h,if_neg (by show s.fuel + n≠0;omega)]
   show O.ok () _=O.ok () _
   simp only [up]
   congr 2
   omega
theorem adt (q x:Nm) (k:Int):gH n (fun s=>j4 (s.vs q x) k s) where
 al s:=QJ Dz _ _ _
 mo s:=by
  show nW n (j4 (s.vs q x) k s) (j4 (s.vs q x) k (up n s))
  unfold j4
  split
  ·simp [nW]
  ·split
   ·rfl
   ·simp [nW]
theorem TU (q x:Nm):gH n (fun s=>jv (s.vs q x) s) where
 al s:=KA Dz _ _
 mo s:=by
  show nW n (jv (s.vs q x) s) (jv (s.vs q x) (up n s))
  unfold jv
  split
  ·rfl
  ·trivial
theorem adu (q:Nm) (fr:Fr) (x:Nm) (k v:Int):gH n (fun s=>jy q fr x k v s) where
 al s:=KC Dz _ _ _ _ _ _
 mo s:=by
  show nW n (jy q fr x k v s) (jy q fr x k v (up n s))
  unfold jy
  split
  ·rfl
  ·show nW n (match s.vs q x with
    | none=>.stop 3 s
    | some l=>if 0≤k∧k < l.length then O.ok (Fl.go,fr) { s with vs:=qa s.vs q x (l.set k.toNat v) } else .stop 3 s) (match s.vs q x with
    | none=>.stop 3 (up n s)
    | some l=>if 0≤k∧k < l.length then O.ok (Fl.go,fr) { (up n s) with vs:=qa s.vs q x (l.set k.toNat v) } else .stop 3 (up n s))
   cases s.vs q x with
   | none=>simp [nW]
   | some l=>
    simp only;split
    ·rfl
    ·simp [nW]
theorem adv (fr:Fr) (k:Int):gH n (fun s=>if s.out.length=200 then O.stop 6 s else .ok (Fl.go,fr) { s with out:=s.out ++ [k] }) where
 al s:=by
  show Al _ s (if s.out.length=200 then O.stop 6 s else .ok (Fl.go,fr) { s with out:=s.out ++ [k] })
  split
  ·exact List.prefix_rfl
  ·exact List.prefix_append _ _
 mo s:=by
  show nW n (if s.out.length=200 then O.stop 6 s else .ok (Fl.go,fr) { s with out:=s.out ++ [k] }) (if s.out.length=200 then O.stop 6 (up n s) else .ok (Fl.go,fr) { (up n s) with out:=s.out ++ [k] })
  split
  ·simp [nW]
  ·rfl
structure Mg (n:Nat) (F:lJ):Prop where
 e : ∀ d q fr x,gH n (F.e d q fr x)
 es : ∀ d q fr x,gH n (F.es d q fr x)
 c : ∀ d q p a,gH n (F.c d q p a)
 b : ∀ d q fr x,gH n (F.b d q fr x)
 l : ∀ d q fr v t,gH n (F.l d q fr v t)
theorem adw {M:Ms} {F:lJ} (h:Mg n F):Mg n ⟨mf M F,xq F,mg F,oU F,zl F⟩ where
 e d q fr x:=by
  show gH n (mf M F d q fr x)
  cases x with
  | num p k=>exact .ok _
  | var p m k=>
   show gH n (fun s=>if m=[] then match eH fr k with
    | some v=>O.ok v s
    | none=>jv (s.vs q k) s
   else jv (s.vs m k) s)
   refine .ite _ ?_ (TU _ _);cases eH fr k with
   | none=>exact TU _ _
   | some v=>exact .ok _
  | item p m k i=>exact .ite _ (.bind (h.e _ _ _ _) fun x=>adt _ _ _) .stuck
  | un p op x=>exact .bind (h.e _ _ _ _) fun _=>.ok _
  | bin p op x y=>
   refine .bind (h.e _ _ _ _) fun a=>.ite _ (.ite _ (.ok _) (.bind (h.e _ _ _ _) fun _=>.ok _)) (.bind (h.e _ _ _ _) fun b=>?_)
   show gH n (fun s=>match both op a b with
    | some k=>O.ok k s
    | none=>.stop 2 s)
   cases both op a b with
   | none=>exact .stop _ (by decide)
   | some k=>exact .ok _
  | app p m k l=>
   show gH n (fun s=>match M (dC q m) with
    | none=>.stuck
    | some mo=>match mo.procs.find? fun p=>p.name == k with
     | none=>.stuck
     | some p=>(F.es d q fr l s).bind fun args s=>F.c d (dC q m) p args s)
   cases M (dC q m) with
   | none=>exact .stuck
   | some mo=>
    show gH n (fun s=>match mo.procs.find? fun p=>p.name == k with
     | none=>.stuck
     | some p=>(F.es d q fr l s).bind fun args s=>F.c d (dC q m) p args s)
    cases mo.procs.find? fun p=>p.name == k with
    | none=>exact .stuck
    | some p=>exact .bind (h.es _ _ _ _) fun a=>h.c _ _ _ _
  | nil=>exact .stuck
  | cons x r=>exact .stuck
 es d q fr x:=by
  show gH n (xq F d q fr x)
  cases x with
  | nil=>exact .ok _
  | cons x r=>exact .bind (h.e _ _ _ _) fun k=>.bind (h.es _ _ _ _) fun _=>.ok _
  | _=>exact .stuck
 c d q p a:=by
  exact .ite _ (.stop _ (by decide)) (.ite _ .stuck (.bind (h.b _ _ _ _) fun _=>.ok _))
 b d q fr x:=by
  refine .ite _ (.ok _) (.bind ?_ fun x=>?_)
  ·show gH n (fun s=>qh F d q fr _ s)
   cases x with
   | nil=>exact .stuck
   | set p k i v r=>
    refine .bind zU fun _=>.bind ?_ fun k=>.bind (h.e _ _ _ _) fun v=>adu _ _ _ _ _
    cases i with
    | none=>exact .ok _
    | some i=>exact h.e _ _ _ _
   | ifs p v t e r=>exact .bind zU fun _=>.bind (h.e _ _ _ _) fun k=>.ite _ (h.b _ _ _ _) (h.b _ _ _ _)
   | dE p v t r=>exact .bind zU fun _=>h.l _ _ _ _ _
   | ret p v r=>exact .bind zU fun _=>.bind (h.e _ _ _ _) fun _=>.ok _
   | dI p v r=>exact .bind zU fun _=>.bind (h.e _ _ _ _) fun k=>adv _ _
   | call p v r=>exact .bind zU fun _=>.bind (h.e _ _ _ _) fun _=>.ok _
  ·obtain⟨x1,x2⟩:=x
   cases x1 with
   | go=>exact h.b _ _ _ _
   | ret k=>exact .ok _
 l d q fr v t:=by
  refine .bind (h.e _ _ _ _) fun k=>.ite _ (.ok _) (.bind (h.b _ _ _ _) fun x=>?_)
  obtain⟨x1,x2⟩:=x;cases x1 with
  | go=>exact .bind zU fun _=>h.l _ _ _ _ _
  | ret k=>exact .ok _
theorem more (M:Ms) (n:Nat) : ∀ g,Mg n (fns M g)
 | 0=>⟨fun _ _ _ _=>.stuck,fun _ _ _ _=>.stuck,fun _ _ _ _=>.stuck,fun _ _ _ _=>.stuck,fun _ _ _ _ _=>.stuck⟩
 | g + 1=>adw (more M n g)
end Go.Mq.Run
namespace Go.Proofs.YtechofppmnnomaaGreatDoor
open Go Go.RowKit Go.Mq Go.Mq.Tree Go.Mq.Sym Go.Mq.Run
open Go.Mq.Check (check Out)
noncomputable def o7 (g:Nat) (W:Wd) (x:Ac) (fuel:Nat):Option (Wd × Nat × List Int × Int × Int):=
 if x.what=1 then (mF g W x.name x.proc x.args fuel).map fun r=>(r.1,r.2.1,r.2.2.1,r.2.2.2.1,ku r.2.2.2.2)
 else match parse x.text with
 | .bad en _=>some (W,0,[],0,en)
 | .ok m=>if x.what=2 then some ((fE W m).1,0,[],0,ku (fE W m).2)
  else (mi g W m fuel).map fun r=>(r.1,r.2.1,r.2.2.1,0,ku r.2.2.2)
theorem adx {W:Wd} (hI:Inv W) {x:Ac} (ht : x.text.length≤1000) (fuel:Nat) : ∃ g r,o7 g W x fuel=some r∧Inv r.1:=by
 by_cases h1 : x.what=1
 ·obtain⟨g,r,h2,h3⟩:=acS hI x.name x.proc x.args fuel
  exact⟨g,_,by rw [o7,if_pos h1,h2];rfl,h3⟩
 ·cases hp : parse x.text with
  | bad en p=>exact⟨0,_,by rw [o7,if_neg h1,hp],hI⟩
  | ok m=>
   have hg:=G5 ht hp;by_cases h2 : x.what=2
   ·exact⟨0,((fE W m).1,0,[],0,ku (fE W m).2),by rw [o7,if_neg h1,hp];simp only [h2,if_true],L9 hI hg⟩
   ·obtain⟨g,r,h3,h4⟩:=acR hI hg fuel
    exact⟨g,_,by rw [o7,if_neg h1,hp];simp only [h2,if_false,h3];rfl,h4⟩
theorem ady {g:Nat} {W:Wd} {m:Mod} {f:Nat} {r:Wd × Nat × List Int × Out} (h : mi g W m f=some r) (hn : ku r.2.2.2≠0) : r.1=W∧r.2.1=0∧r.2.2.1=[]:=by
 unfold mi at h
 split at h
 ·cases h;exact⟨rfl,rfl,rfl⟩
 ·cases hc : check m (dP W.M) with
  | plain k=>rw [hc] at h;cases h;exact⟨rfl,rfl,rfl⟩
  | at_ e p=>rw [hc] at h;cases h;exact⟨rfl,rfl,rfl⟩
  | fine=>
   rw [hc] at h;simp only at h;split at h
   ·cases h;exact⟨rfl,rfl,rfl⟩
   ·split at h
    ·cases h
    ·cases h;exact(hn rfl).elim
    ·cases h;exact(hn rfl).elim
theorem adz {g:Nat} {W:Wd} {q n:Run.Nm} {args:List Int} {f:Nat} {r:Wd × Nat × List Int × Int × Out} (h : mF g W q n args f=some r) (hn : ku r.2.2.2.2≠0) : r.1=W∧r.2.1=0∧r.2.2.1=[]∧r.2.2.2.1=0:=by
 unfold mF at h
 repeat' split at h
 all_goals first
  | (cases h;exact⟨rfl,rfl,rfl,rfl⟩)
  | (cases h;exact(hn rfl).elim)
  | (cases h;done)
theorem adA {W:Wd} {m:Mod} (hn : ku (fE W m).2≠0) : (fE W m).1=W:=by
 rw [fE] at hn ⊢
 repeat' split
 all_goals first
  | rfl
  | (simp_all [ku];done)
theorem adB {g:Nat} {W:Wd} {x:Ac} {f:Nat} {r:Wd × Nat × List Int × Int × Int} (h : o7 g W x f=some r) (hn : r.2.2.2.2≠0) : r.1=W∧r.2.1=0∧r.2.2.1=[]∧r.2.2.2.1=0:=by
 unfold o7 at h
 split at h
 ·obtain⟨r',h1,rfl⟩:=Option.map_eq_some_iff.1 h
  exact adz h1 hn
 ·cases hp : parse x.text with
  | bad en p=>rw [hp] at h;cases h;exact⟨rfl,rfl,rfl,rfl⟩
  | ok m=>
   rw [hp] at h;simp only at h;split at h
   ·cases h;exact⟨adA hn,rfl,rfl,rfl⟩
   ·obtain⟨r',h1,rfl⟩:=Option.map_eq_some_iff.1 h
    obtain⟨h2,h3,h4⟩:=ady h1 hn;exact⟨h2,h3,h4,rfl⟩
end Go.Proofs.YtechofppmnnomaaGreatDoor
