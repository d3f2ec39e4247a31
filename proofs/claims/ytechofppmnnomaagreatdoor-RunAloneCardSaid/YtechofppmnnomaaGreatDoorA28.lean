/- Some texts in one. -/
import Derived.Laws.BytesString
import Derived.Laws.CopyRow
import Derived.Test.YtechofppmnnomaaGreatDoorA2
import Derived.Test.YtechofppmnnomaaGreatDoorA27
namespace Go.Proofs.YtechofppmnnomaaGreatDoor
open Go Go.RowKit Go.Mq Go.Mq.Tree Go.Mq.Sym Go.Mq.Run
def pairT (u:Int):List UInt8:=[UInt8.ofNat (IntKind.u64.wrap (97 + bits BinOp.and IntKind.u64 u 15) % 256).toNat,UInt8.ofNat (IntKind.u64.wrap (97 + bits BinOp.and IntKind.u64 (u / 16) 15) % 256).toNat]
def vJ:Nat→Int→List UInt8
 | 0,_=>[]
 | k + 1,u=>pairT u ++ vJ k (u / 256)
def Im (l:List Int):List UInt8:=l.flatMap fun x=>vJ 8 (IntKind.u64.wrap x)
def sF (W:Wd) (q v:Nm):List UInt8:=match pg W q v with
 | none=>[45]
 | some l=>v ++ Im l
def pq:List Nm:=[[120],[121],[116],[117],[122]]
def qE (W:Wd) (q:Nm):List UInt8:=q ++ pq.flatMap (sF W q) ++ [59]
def allT (W:Wd):List UInt8:=W.order.flatMap (qE W)
theorem BI (a b:List UInt8) : bs a ++ bs b=bs (a ++ b):=by
 apply ByteArray.ext
 simp [bs]
theorem Io {α:Type} {l:List α} {k:Nat} {x : α} (h : l[k]?=some x) (f : α→List UInt8) : (l.take (k + 1)).flatMap f=(l.take k).flatMap f ++ f x:=by
 rw [zn h,List.flatMap_append];simp
set_option maxRecDepth 100000
set_option maxHeartbeats 4000000
theorem adv (w:World) (n1 n2:Int) : (convert 114 9 (.slice (some ⟨w.heap.size,0,none⟩) 2 2)).run Tryz.prog (w.alloc (.cells #[.int .u8 n1,.int .u8 n2] 5)) = .ok (.string (bs [UInt8.ofNat n1.toNat,UInt8.ofNat n2.toNat])) (w.alloc (.cells #[.int .u8 n1,.int .u8 n2] 5)):=by
 rw [run_convert_bytes_string _ _ _ 5 _ _ _ Tryz.underlying114 Tryz.underlying5 Tryz.underlying9];refine run_bytesToString _ ⟨w.heap.size,0,none⟩ 2 2 [n1,n2] ?_;have hz:=ag.new w #[.int .u8 n1,.int .u8 n2] 5;exact run_loadCells_list _ _ [.int .u8 n1,.int .u8 n2] (fun j v hv=>by
  match j,hv with
  | 0,hv=>cases hv;exact hz.cell 0 _ rfl
  | 1,hv=>cases hv;exact hz.cell 1 _ rfl)
theorem TQ (x:Int) : 0≤IntKind.u64.wrap x∧IntKind.u64.wrap x < 18446744073709551616:=by
 have h:IntKind.u64.wrap x=x % 18446744073709551616:=rfl;rw [h];omega
theorem Mt {w:World} {Own G:Nat→Prop} {bw:Nat} {W:Wd} (h:dP w Own G bw W) (hI:Inv W) :
  Calls Tryz.prog 17 #[ptr bw] w (fun e w'=>e = .returned (str (allT W))∧ae [] w w'):=by
 have HN:=zh (adq h);have HG:=zh (fun q n w' (hc:ae [] w w')=>adu (h.kept hc (by simp)) q n);have J8:=zh (fun q (hq : q∈W.order)=>(show q.length≤10 by
  obtain⟨m,hm⟩:=Option.isSome_iff_exists.1 ((hI.order q).1 hq);obtain⟨h1,h2⟩:=hI.ok.good q m hm;rw [← h2];exact h1.wf.name.2.2))
 have dJ:=h.few;clear h hI
 go_enter Tryz.func17,Tryz.ntmps17
 go_wp2_with fail;refine HN.out.mono ?_;rintro _ w1 ⟨vn,rfl,TR,adw,hc1⟩;have TS:=TR;obtain⟨an,cn,rfl,hcn,hrn⟩:=Row.jU (F:=fun _=>True) TS (fun _ _=>trivial);have hln : (W.order.map str).length=W.order.length:=by simp
 have HVN:=zh hrn;have cB:=zh hc1;clear TR TS hrn adw hc1;go_wp2_with fail
 go_loopw [3,5,7,8,9,10,11,12] (fun s i _ _ _ _ _ _ wr=>∃ (k:Nat) (S:ByteArray),s = .string S∧Hid (S=bs ((W.order.take k).flatMap (qE W)))∧S.size≤k * 1000000∧i = .int .i64 k∧k≤W.order.length∧ae [] w1 wr) (fun _ i _ _ _ _ _ _ _=>W.order.length - (intOf i).toNat)
 case atStart=>exact⟨0,_,rfl,zh rfl,Nat.zero_le _,rfl,Nat.zero_le _,ae.refl _ _⟩
 case round=>
  obtain⟨k,S,rfl,HS,hSz,rfl,hk,hc⟩:=hrel;have HC:=zh hc;clear hc;by_cases hlt : k < W.order.length
  ·obtain⟨q,hq⟩ : ∃ q,W.order[k]?=some q:=⟨W.order[k],List.getElem?_eq_getElem hlt⟩
   have HQ:=zh hq;have TT:=J8.out q (List.mem_of_getElem? hq);obtain⟨bb,off,rfl,hc⟩:=Dj (HVN.out.kept HC.out (by simp)) (show k < (W.order.map str).length by simpa using hlt);have hcq : wr.cell? ⟨bb,off + k,none⟩=some (str q):=by
    rw [hc];simp only [List.getElem_map];rw [List.getElem?_eq_getElem hlt,Option.some.injEq] at hq;rw [hq]
   obtain⟨qb,Ip⟩ : ∃ x,x=bs q:=⟨_,rfl⟩
   rw [str,← Ip] at hcq;have hqs : qb.size≤10:=by rw [Ip,Jk];exact TT
   have TU:=zh Ip;have hz:=ag.new wr #[.string ⟨#[120]⟩,.string ⟨#[121]⟩,.string ⟨#[116]⟩,.string ⟨#[117]⟩,.string ⟨#[122]⟩] 9;obtain⟨wA,ay⟩ : ∃ x,wr.alloc (.cells #[.string ⟨#[120]⟩,.string ⟨#[121]⟩,.string ⟨#[116]⟩,.string ⟨#[117]⟩,.string ⟨#[122]⟩] 9)=x:=⟨_,rfl⟩
   rw [ay] at hz;have hcA:ae [] wr wA:=by rw [← ay];exact(ae.refl _ _).alloc _
   obtain⟨b27,Mv⟩ : ∃ b,b=wr.heap.size:=⟨_,rfl⟩
   rw [← Mv] at hz;have HZ:=zh hz;have r9:=zh (HC.out.then hcA);have ady:=zh hcA;have uC:=zh hcq;clear Ip hq hc TT hz hcA;go_wp2_with fail;rw [← Mv];clear hcq ay Mv
   go_loopw [3,7,8,9,10,11,12,29] (fun s _ _ _ _ _ _ i wr=>∃ (j:Nat) (T:ByteArray),s = .string T∧Hid (T=bs ((W.order.take k).flatMap (qE W) ++ q ++ (pq.take j).flatMap (sF W q)))∧T.size≤k * 1000000 + 10 + j * 20000∧i = .int .i64 j∧j≤5∧ae [] wA wr) (fun _ _ _ _ _ _ _ i _=>5 - (intOf i).toNat)
   case atStart=>exact⟨0,_,rfl,zh (by rw [HS.out,TU.out,BI];simp),by simp;omega,rfl,by omega,ae.refl _ _⟩
   case round=>
    rename_i wr0
    obtain⟨j,T,rfl,HT,hTz,rfl,hj,hc⟩:=hrel;have aD:=zh hc;clear hc;by_cases hlt2 : j < 5
    ·obtain⟨v,hv,Gz,hvl⟩ : ∃ v,pq[j]?=some v∧wr.cell? ⟨b27,j,none⟩=some (.string (bs v))∧v.length=1:=by
      have hz:=HZ.out.kept aD.out (by simp);have : j=0∨j=1∨j=2∨j=3∨j=4:=by omega
      rcases this with rfl|rfl|rfl|rfl|rfl
      ·exact⟨[120],rfl,hz.cell 0 _ rfl,rfl⟩
      ·exact⟨[121],rfl,hz.cell 1 _ rfl,rfl⟩
      ·exact⟨[116],rfl,hz.cell 2 _ rfl,rfl⟩
      ·exact⟨[117],rfl,hz.cell 3 _ rfl,rfl⟩
      ·exact⟨[122],rfl,hz.cell 4 _ rfl,rfl⟩
     have hcw:=cB.out.then (r9.out.then aD.out)
     have hg:=HG.out q v wr hcw;obtain⟨vb,hvb⟩ : ∃ x,x=bs v:=⟨_,rfl⟩
     rw [str,str,← TU.out,← hvb] at hg;rw [← hvb] at Gz;have hvs : vb.size=1:=by rw [hvb,Jk];exact hvl
     have hqc : wr.cell? ⟨bb,off + k,none⟩=some (.string qb):=(ady.out.then aD.out).aF uC.out (by simp);have Mw:=zh hg;have HV:=zh hv;have KS:=zh hvb;clear hg hv hvb hcw hvl;obtain⟨o,ho⟩ : ∃ o,o=pg W q v:=⟨_,rfl⟩
     rw [← ho] at Mw;have HO:=zh ho;clear ho;cases o with
     | none=>
      go_wp2_with fail;refine Mw.out.mono ?_;rintro _ w2 ⟨hc2,rfl⟩;have bz:=zh hc2;clear hc2;go_wp2_with fail;refine⟨⟨j + 1,_,rfl,zh ?_,?_,by go_num,by omega,aD.out.then bz.out⟩,by simp [intOf];omega⟩
      ·rw [HT.out,Io HV.out,sF,← HO.out]
       exact(BI _ [45]).trans (by simp)
      ·have : (T ++ (⟨#[45]⟩ : ByteArray)).size=T.size + 1:=by rw [ByteArray.size_append];rfl
       omega
     | some l=>
      go_wp2_with fail;refine Mw.out.mono ?_;rintro _ w2 ⟨hc2,vl,rfl,hown,hfl,hll⟩;obtain⟨al,cl,rfl,hcl,hrl⟩:=Row.jU (F:=fun _=>True) hown (fun _ _=>trivial);have xI:=zh hrl;have bz:=zh (aD.out.then hc2);clear hown hfl hrl hc2 hqc Gz;obtain⟨T1,hT1⟩ : ∃ x,x=T ++ vb:=⟨_,rfl⟩
      obtain⟨z0,hz0⟩ : ∃ z,z=k * 1000000 + 11 + j * 20000:=⟨_,rfl⟩
      have aiH:T1.size≤z0:=by rw [hT1,ByteArray.size_append];omega
      have hz9 : z0≤20000000:=by omega
      have HZ0:=zh hz0;clear hz0;have HT1:=zh (show T1=bs ((W.order.take k).flatMap (qE W) ++ q ++ (pq.take j).flatMap (sF W q) ++ v) by rw [hT1,HT.out,KS.out,BI]);go_wp2_with fail;rw [← hT1];clear hT1
      go_loopw [3,10,11,12] (fun s i _ _ wr=>∃ (n:Nat) (U:ByteArray),s = .string U∧Hid (U=bs ((W.order.take k).flatMap (qE W) ++ q ++ (pq.take j).flatMap (sF W q) ++ v ++ (l.take n).flatMap fun x=>vJ 8 (IntKind.u64.wrap x)))∧U.size≤z0 + n * 16∧i = .int .i64 n∧n≤l.length∧ae [] w2 wr) (fun _ i _ _ _=>l.length - (intOf i).toNat)
      case atStart=>exact⟨0,_,rfl,zh (by rw [HT1.out];simp),by omega,rfl,by omega,ae.refl _ _⟩
      case round=>
       rename_i wr1
       obtain⟨n,U,rfl,HU,hUz,rfl,hn,hc⟩:=hrel;have cu:=zh hc;clear hc;by_cases hlt3 : n < l.length
       ·obtain⟨x,hx⟩ : ∃ x,l[n]?=some x:=⟨l[n],List.getElem?_eq_getElem hlt3⟩
        obtain⟨b2,adz,rfl,hc⟩:=Dj (xI.out.kept cu.out (by simp)) (show n < (l.map num).length by simpa using hlt3);have hcx : wr.cell? ⟨b2,adz + n,none⟩=some (num x):=by
         rw [hc];simp only [List.getElem_map];rw [List.getElem?_eq_getElem hlt3,Option.some.injEq] at hx;rw [hx]
        have HX:=zh hx;clear hc hx;go_wp2_with fail;clear hcx
        go_loopw [3,11,12] (fun s u i wr=>∃ (c:Nat) (V:ByteArray) (y:Int),s = .string V∧Hid (∃ lV,V=bs lV∧lV ++ vJ (8 - c) y=(W.order.take k).flatMap (qE W) ++ q ++ (pq.take j).flatMap (sF W q) ++ v ++ (l.take (n + 1)).flatMap fun x=>vJ 8 (IntKind.u64.wrap x))∧V.size≤z0 + n * 16 + c * 2∧u = .int .u64 y∧0≤y∧y < 18446744073709551616∧i = .int .i64 c∧c≤8∧ae [] w2 wr) (fun _ _ i _=>8 - (intOf i).toNat)
        case atStart=>
         refine⟨0,U,_,rfl,zh ⟨_,HU.out,?_⟩,by omega,rfl,?_,?_,rfl,by omega,cu.out⟩
         ·rw [Io HX.out]
          simp
         ·exact(TQ x).1
         ·exact(TQ x).2
        case round=>
         rename_i wr2
         obtain⟨c,V,y,rfl,GR,hVz,rfl,hy0,hy1,rfl,hcc,hc⟩:=hrel;have cO:=zh hc;clear hc;by_cases K7 : c < 8
         ·have hpc:=adv wr (IntKind.u64.wrap (97 + bits BinOp.and IntKind.u64 y 15) % 256) (IntKind.u64.wrap (97 + bits BinOp.and IntKind.u64 (y / 16) 15) % 256)
          obtain⟨pb,hpb⟩ : ∃ x,x=bs [UInt8.ofNat (IntKind.u64.wrap (97 + bits BinOp.and IntKind.u64 y 15) % 256).toNat,UInt8.ofNat (IntKind.u64.wrap (97 + bits BinOp.and IntKind.u64 (y / 16) 15) % 256).toNat]:=⟨_,rfl⟩
          rw [← hpb] at hpc;have hps : pb.size=2:=by rw [hpb];rfl
          have G8:=zh (show pb=bs (pairT y) from hpb);clear hpb;go_wp2_with fail;refine⟨⟨c + 1,V ++ pb,y / 256,rfl,zh ?_,?_,rfl,by omega,by omega,by go_num,by omega,cO.out.alloc _⟩,by simp [intOf];omega⟩
          ·obtain⟨lV,h1,h2⟩:=GR.out
           refine⟨lV ++ pairT y,by rw [h1,G8.out,BI],?_⟩;rw [← h2];obtain⟨d,hd⟩ : ∃ d,8 - c=d + 1:=⟨7 - c,by omega⟩
           rw [hd,show 8 - (c + 1)=d by omega,vJ];simp
          ·rw [ByteArray.size_append];omega
         ·go_wp2_with fail
          refine⟨⟨n + 1,V,rfl,zh ?_,?_,by go_num,by omega,cO.out⟩,by simp [intOf];omega⟩
          ·obtain⟨lV,h1,h2⟩:=GR.out
           rw [show 8 - c=0 by omega,vJ,List.append_nil] at h2;rw [h1,h2]
          ·omega
       ·go_wp2_with fail
        refine⟨⟨j + 1,U,rfl,zh ?_,?_,by go_num,by omega,bz.out.then cu.out⟩,by simp [intOf];omega⟩
        ·have e1 : l.take n=l:=List.take_of_length_le (by omega)
         rw [HU.out,Io HV.out,sF,← HO.out,e1];simp [Im]
        ·have:=HZ0.out
         omega
    ·go_wp2_with fail
     refine⟨⟨k + 1,_,rfl,zh ?_,?_,by go_num,by omega,r9.out.then aD.out⟩,by simp [intOf];omega⟩
     ·have e1 : pq.take j=pq:=List.take_of_length_le (by show 5≤j;omega)
      rw [HT.out,Io HQ.out,qE,e1];exact(BI _ [59]).trans (by simp)
     ·have : (T ++ (⟨#[59]⟩ : ByteArray)).size=T.size + 1:=by rw [ByteArray.size_append];rfl
      omega
  ·go_wp2_with fail
   have hS:S=bs (allT W):=by rw [HS.out,List.take_of_length_le (by omega),allT]
   rw [hS];go_ret
   exact⟨rfl,cB.out.then HC.out⟩
end Go.Proofs.YtechofppmnnomaaGreatDoor
namespace Go.Proofs.YtechofppmnnomaaGreatDoor
open Go Go.RowKit Go.Mq Go.Mq.Tree Go.Mq.Sym Go.Mq.Run
set_option maxRecDepth 100000
set_option maxHeartbeats 4000000
theorem TV {w:World} {F:Nat→Prop} {a:Option Addr} {l:List Int} (h:Row w F a (ints l)) {k:Nat} (hk : k < l.length) : ∃ bb off,a=some ⟨bb,off,none⟩∧w.cell? ⟨bb,off + k,none⟩=some (num l[k]):=by
 obtain⟨bb,off,rfl,hc⟩:=h.at_ (by simp;omega);exact⟨bb,off,rfl,hc k _ (by simp [hk])⟩
theorem TW (x y:List Int) (hx : x.length≤100000) (hy : y.length≤100000) (a b:Option Addr) (c d:Nat) (F G:Nat→Prop) (w:World) (ha:Row w F a (ints x)) (hb:Row w G b (ints y)) :
  Calls Tryz.prog 18 #[.slice a x.length c,.slice b y.length d] w (fun e w'=>e = .returned (.bool (decide (x=y)))∧ae [] w w'):=by
 have HA:=zh ha;have HB:=zh hb;clear ha hb;cases hlen : ((x.length:Int) != (y.length:Int)) with
 | true=>
  have hne : x≠y:=fun e=>by subst e;simp at hlen
  go_enter Tryz.func18,Tryz.ntmps18
  go_wp2_with fail;go_ret
  exact⟨by simp [hne],ae.refl _ _⟩
 | false=>
  have hll : x.length=y.length:=by
   have : (x.length:Int)=y.length:=by simpa using hlen
   omega
  have GD:=zh hll;clear hll
  go_enter Tryz.func18,Tryz.ntmps18
  go_wp2_with fail
  go_loopw [5,13] (fun _ i wr=>∃ k:Nat,i = .int .i64 k∧k≤x.length∧ae [] w wr∧x.take k=y.take k) (fun _ i _=>x.length - (intOf i).toNat)
  case atStart=>exact⟨0,rfl,Nat.zero_le _,ae.refl _ _,by simp⟩
  case round=>
   obtain⟨k,rfl,hk,hc,hno⟩:=hrel;have eu:=zh hno;have HC:=zh hc;clear hno hc;by_cases hlt : k < x.length
   ·have hlt2 : k < y.length:=by have:=GD.out;omega
    obtain⟨xk,hxk⟩ : ∃ z,z=x[k]:=⟨_,rfl⟩
    obtain⟨yk,hyk⟩ : ∃ z,z=y[k]:=⟨_,rfl⟩
    have hr:ae [] w wr.drew:=HC.out.drew;obtain⟨b1,o1,rfl,d1⟩:=TV (HA.out.kept HC.out (by simp)) hlt;obtain⟨b2,o2,rfl,d2⟩:=TV (HB.out.kept HC.out (by simp)) hlt2;rw [← hxk] at d1;rw [← hyk] at d2;have TY:=zh hxk;have TZ:=zh hyk;have HR:=zh hr;clear hxk hyk hr;have hkl : k < y.length:=hlt2;cases hq : (xk != yk) with
    | true=>
     have hne : x≠y:=fun e=>by
      have h1:=TY.out;have h2:=TZ.out;subst e;rw [h1,h2] at hq;simp at hq
     go_wp2_with fail
     go_region
     all_goals (try go_wp2_with fail)
     go_ret
     exact⟨by simp [hne],HR.out⟩
    | false=>
     have jl : xk=yk:=by simpa using hq
     have aR:=zh jl;clear jl;go_wp2_with fail
     go_region
     all_goals (try go_wp2_with fail)
     refine⟨⟨k + 1,by go_num,by omega,HR.out,?_⟩,by simp [intOf];omega⟩;rw [List.take_succ_eq_append_getElem hlt,List.take_succ_eq_append_getElem hlt2,eu.out,← TY.out,← TZ.out,aR.out]
   ·have hkx : k=x.length:=by omega
    have he : x=y:=by
     have h1:=eu.out;rw [hkx,List.take_length,GD.out,List.take_length] at h1;exact h1
    go_wp2_with fail;go_ret
    exact⟨by simp [he],HC.out⟩
end Go.Proofs.YtechofppmnnomaaGreatDoor
namespace Go.Proofs.YtechofppmnnomaaGreatDoor
open Go Go.RowKit Go.Mq Go.Mq.Tree Go.Mq.Sym Go.Mq.Run
open Go.Mq.Check (check Out)
set_option maxRecDepth 100000
set_option maxHeartbeats 4000000
def q8:Out→Int
 | .fine=>0
 | .plain n=>n
 | .at_ en _=>en
theorem Iq {o:Out} {v:Value} {w:World} (hg:kL w) (h:qi w o v):Calls Tryz.prog 15 #[v] w fun e w'=>e = .returned (.int .i64 (q8 o))∧ae [] w w':=by
 cases o with
 | fine=>
  simp only [qi] at h;subst h;exact(aaj w).mono fun e w' ⟨h1,h2⟩=>⟨h1,by rw [h2];exact ae.refl _ _⟩
 | plain n=>
  simp only [qi] at h;subst h;exact aal n w hg
 | at_ en p=>
  obtain⟨b,rfl,hb⟩:=h;exact aar en b w hg (hb.cell 0 _ rfl)
theorem adA {w:World} {y1 y2:Nat} {o1 o2:List Int} {v1 v2:Value} {a1 a2:Option Addr} {c1 c2:Nat} (l1 : o1.length≤100000) (l2 : o2.length≤100000)
  (r1:Row w (fun _=>True) a1 (ints o1)) (r2:Row w (fun _=>True) a2 (ints o2)) (e1 : v1 = .agg #[num y1,.slice a1 o1.length c1]) (e2 : v2 = .agg #[num y2,.slice a2 o2.length c2]) :
  Calls Tryz.prog 16 #[v1,v2] w fun e w'=>e = .returned (.bool (decide (y1=y2) && decide (o1=o2)))∧ae [] w w':=by
 subst e1 e2;obtain⟨wA,ay⟩ : ∃ x,w.alloc (.cells #[num y1,.slice a1 o1.length c1] 43)=x:=⟨_,rfl⟩
 have mU:ag wA w.heap.size #[num y1,.slice a1 o1.length c1] 43:=by rw [← ay];exact ag.new w _ _
 have hcA:ae [] w wA:=by rw [← ay];exact(ae.refl _ _).alloc _
 obtain⟨wB,fB⟩ : ∃ x,wA.alloc (.cells #[num y2,.slice a2 o2.length c2] 43)=x:=⟨_,rfl⟩
 have vK:ag wB wA.heap.size #[num y2,.slice a2 o2.length c2] 43:=by rw [← fB];exact ag.new wA _ _
 have hcB:ae [] wA wB:=by rw [← fB];exact(ae.refl _ _).alloc _
 have Mx:=mU.kept hcB (by simp);have x0:=Mx.cell 0 _ rfl;have x1:=Mx.cell 1 _ rfl;have z0:=vK.cell 0 _ rfl;have z1:=vK.cell 1 _ rfl;have HE:=zh (TW o1 o2 l1 l2 a1 a2 c1 c2 _ _ wB (r1.kept (hcA.then hcB) (by simp)) (r2.kept (hcA.then hcB) (by simp)));have HC:=zh (hcA.then hcB);clear mU hcA vK hcB Mx r1 r2 l1 l2;cases hq : ((y1:Int) == (y2:Int)) with
 | true=>
  have hyi : (y1:Int)=y2:=by simpa using hq
  have HY:=zh (show y1=y2 by omega);clear hyi
  go_enter Tryz.func16,Tryz.ntmps16
  go_wp2_with fail;refine HE.out.mono ?_;rintro _ w1 ⟨rfl,hc⟩;go_wp2_with fail;go_ret
  exact⟨by simp [HY.out],HC.out.then hc⟩
 | false=>
  have hyi : ¬ (y1:Int)=y2:=by simpa using hq
  have HY:=zh (show y1≠y2 by omega);clear hyi
  go_enter Tryz.func16,Tryz.ntmps16
  go_wp2_with fail;go_ret
  exact⟨by simp [HY.out],HC.out⟩
end Go.Proofs.YtechofppmnnomaaGreatDoor
namespace Go.Mq.Run
open Go Go.RowKit Go.Mq Go.Mq.Tree Go.Mq.Sym
open Classical
theorem adB {M:Ms} {a b:Nm} (h:M a=none) (hab : a≠b) : ¬ Reach M a b:=fun hr=>by
 cases hr with
 | refl=>exact hab rfl
 | step hi _=>
  obtain⟨m,hm,_⟩:=hi;rw [h] at hm;cases hm
theorem adC {M:Ms} {a b:Nm} {m:Mod} (h:M a=some m) (hab : a≠b):Reach M a b ↔ ∃ n∈m.imports,Reach M n b:=by
 constructor
 ·intro hr
  cases hr with
  | refl=>exact absurd rfl hab
  | step hi hr2=>
   obtain⟨m',hm',hx⟩:=hi;rw [h] at hm';cases hm'
   exact⟨_,hx,hr2⟩
 ·rintro⟨n,hn,hr⟩
  exact .step ⟨m,h,hn⟩ hr
noncomputable def sG (M:Ms) (a b:Nm):Bool:=decide (Reach M a b)
theorem adD {M:Ms} {a b:Nm} {m:Mod} (h:M a=some m) (hab : a≠b) : sG M a b=m.imports.any fun n=>sG M n b:=by
 rw [Bool.eq_iff_iff];simp only [sG,decide_eq_true_eq,List.any_eq_true];exact adC h hab
theorem adE {M:Ms} {a b:Nm} (h:M a=none) (hab : a≠b) : sG M a b=false:=decide_eq_false (adB h hab)
theorem adF (M:Ms) (a:Nm) : sG M a a=true:=decide_eq_true (.refl a)
end Go.Mq.Run
namespace Go.Proofs.YtechofppmnnomaaGreatDoor
open Go Go.RowKit Go.Mq Go.Mq.Tree Go.Mq.Sym Go.Mq.Run
open Go.Mq.fu (bA getM dG jX lL mR kH)
open Go.Mq.Check (eQ qO qP)
set_option maxRecDepth 100000
set_option maxHeartbeats 4000000
theorem adG (l:List Nm) (p:Nm→Bool) : (match l.find? p with|none=>l.any p=false|some _=>l.any p=true):=by
 cases h : l.find? p with
 | none=>simpa using h
 | some x=>simp only [List.any_eq_true];exact⟨x,List.mem_of_find?_eq_some h,List.find?_some h⟩
theorem adH (dY:FuncId) (hF : ∀ (args:Array Value) (w:World),(callFunc dY args).run Tryz.prog w = .ok (.enter dY args) w) (l:List Nm) (hl : l.length≤1000) (p:Nm→Bool) (c1 c2:Value) (F:Nat→Prop) (v:Value) (w:World) (h:eF w F l v)
  (hf : ∀ n∈l,∀ w',ae [] w w'→Calls Tryz.prog dY #[str n,c1,c2] w' (fun e w''=>e = .returned (.bool (p n))∧ae [] w' w'')) :
  Calls Tryz.prog 88 #[v,.func (.func dY) #[] #[c1,c2]] w (fun e w'=>eQ l p e∧ae [] w w'):=by
 obtain⟨a,c,rfl,hac,hrow⟩:=h;have fH:=zh hrow;have HF:=zh hf;clear hrow hf
 go_enter Tryz.func88,Tryz.ntmps88
 go_wp2_with fail
 go_loopw [5,8] (fun _ i wr=>∃ k:Nat,i = .int .i64 k∧k≤l.length∧ae [] w wr ∧ ∀ (i:Nat) (x:Nm),i < k→l[i]?=some x→p x=false) (fun _ i _=>l.length - (intOf i).toNat)
 case atStart=>exact⟨0,rfl,Nat.zero_le _,ae.refl _ _,fun i x hi=>by omega⟩
 case round=>
  obtain⟨k,rfl,hk,hc,hno⟩:=hrel;have eu:=zh hno;have HC:=zh hc;clear hno hc;by_cases hlt : k < l.length
  ·obtain⟨s,hs⟩ : ∃ s,l[k]?=some s:=⟨l[k],List.getElem?_eq_getElem hlt⟩
   obtain⟨bb,off,rfl,d0⟩:=xe (fH.out.kept HC.out (by simp)) hs;have HS:=zh hs;have HI:=zh (HF.out s (List.mem_of_getElem? hs) wr HC.out);clear hs;cases hq : p s with
   | true=>
    rw [hq] at HI;have HR:=zh (show l.find? p=some s from qO HS.out hq eu.out);clear hq;go_wp2_with fail;refine HI.out.mono ?_;rintro _ w2 ⟨rfl,hq⟩;have HQ:=zh (HC.out.then hq);clear hq;go_wp2_with fail;go_ret
    refine⟨?_,HQ.out⟩;rw [eQ,HR.out];exact⟨k,HS.out,rfl⟩
   | false=>
    rw [hq] at HI;have HN:=zh hq;clear hq;go_wp2_with fail;refine HI.out.mono ?_;rintro _ w2 ⟨rfl,hq⟩;have HQ:=zh (HC.out.then hq);clear hq;go_wp2_with fail;refine⟨⟨k + 1,by go_num,by omega,HQ.out,fun i x hi hx=>?_⟩,by simp [intOf];omega⟩;by_cases he : i < k
    ·exact eu.out i x he hx
    ·have : i=k:=by omega
     subst this;rw [HS.out] at hx;cases hx
     exact HN.out
  ·have HR:=zh (show l.find? p=none from qP fun i x hx=>eu.out i x (by have:=(List.getElem?_eq_some_iff.1 hx).1;omega) hx)
   go_wp2_with fail;go_ret
   exact⟨by rw [eQ,HR.out] <;> rfl,HC.out⟩
theorem T9 (dY:FuncId) (hF : ∀ (args:Array Value) (w:World),(callFunc dY args).run Tryz.prog w = .ok (.enter dY args) w) (l:List Nm) (hl : l.length≤1000) (p:Nm→Bool) (c1 c2:Value) (F:Nat→Prop) (v:Value) (w:World) (h:eF w F l v)
  (hf : ∀ n∈l,∀ w',ae [] w w'→Calls Tryz.prog dY #[str n,c1,c2] w' (fun e w''=>e = .returned (.bool (p n))∧ae [] w' w'')) :
  Calls Tryz.prog 49 #[v,.func (.func dY) #[] #[c1,c2]] w (fun e w'=>e = .returned (.bool (l.any p))∧ae [] w w'):=by
 have HI:=zh (adH dY hF l hl p c1 c2 F v w h hf);clear h hf
 go_enter Tryz.func49,Tryz.ntmps49
 go_wp2_with fail;refine HI.out.mono ?_;rintro e w1 ⟨hat,hc⟩;have HC:=zh hc;have gN:=adG l p;clear hc;rw [eQ] at hat;cases hx : l.find? p with
 | none=>
  rw [hx] at hat gN;simp only at hat;subst hat;have sH:=zh (show l.any p=false from gN);clear gN hx;go_wp2_with fail;go_ret
  exact⟨by rw [sH.out] <;> rfl,HC.out⟩
 | some x=>
  rw [hx] at hat gN;obtain⟨k,hk,rfl⟩:=hat;have sH:=zh (show l.any p=true from gN);have hkz : decide ((0:Int)≤(k:Int))=true:=by simp
  clear gN hx hk;go_wp2_with fail;go_ret
  exact⟨by rw [sH.out] <;> simp,HC.out⟩
theorem adI {w:World} {Own G:Nat→Prop} {bw:Nat} {W:Wd} {pv:Option Nat} {oa:Option Addr} {oc:Nat} (h:LJ w Own G bw W pv oa oc) (q:Nm) : ∃ o,(∀ w',ae [] w w'→(Instr.lookup 38 (.map pv) (str q) false).run Tryz.prog w' = .ok (.pointer o) w') ∧
  match W.M q with
  | none=>o=none
  | some m=>∃ bp L bQ,pv=some bp∧Has w Own G bw W L∧nk w Own G bw W L bp (.slice oa W.order.length oc) bQ∧o=some ⟨L.pb q,0,none⟩∧oM w L.Fix m (L.ak q) (L.pb q):=by
 rcases h.at_ with⟨rfl,rfl,_⟩|⟨bp,L,bQ,rfl,hh,ho⟩
 ·refine⟨none,fun w' hc=>?_,rfl⟩
  have:=mR (P:=Tryz.prog) Tryz.underlying38 Tryz.underlying9 (rV w') q false
  simpa using this
 ·have:=ho.2.2.2.2.2.2 q
  cases hq:W.M q with
  | none=>
   refine⟨none,fun w' hc=>?_,rfl⟩;have hl:=jX (P:=Tryz.prog) Tryz.underlying38 Tryz.underlying9 (rV w') (ho.2.2.1.kept hc (by simp)) q;rw [hq] at this;simp only at this;rw [this] at hl;exact hl
  | some m=>
   rw [hq] at this;obtain⟨a1,a2,bv,_,a5⟩:=this;refine⟨some ⟨L.pb q,0,none⟩,fun w' hc=>?_,bp,L,bQ,rfl,hh,ho,rfl,a5.mono (fun x hx=>hx.1)⟩;have hl:=jX (P:=Tryz.prog) Tryz.underlying38 Tryz.underlying9 (rV w') (ho.2.2.1.kept hc (by simp)) q;rw [a1] at hl;exact hl
theorem adJ {w0:World} {Own G:Nat→Prop} {bw:Nat} {W:Wd} (h0:dP w0 Own G bw W) (b:Nm) (a:Nm) (hacc:Acc (nz W.M) a) : ∀ w,ae [] w0 w →
  Calls Tryz.prog 51 #[ptr bw,str a,str b] w (fun e w'=>e = .returned (.bool (sG W.M a b))∧ae [] w w'):=by
 induction hacc with
 | intro a _ ih=>
  intro w hcw;have h:=h0.kept hcw (by simp);have pU : ∀ (fn:Fn) (first cap:Array Value) (w:World),(Instr.makeFunc fn first cap).run Tryz.prog w = .ok (.func fn first cap) w:=fun _ _ _ _=>rfl
  obtain⟨wA,ay⟩ : ∃ x,w.alloc (.cells #[ptr bw] 50)=x:=⟨_,rfl⟩
  have mU:ag wA w.heap.size #[ptr bw] 50:=by rw [← ay];exact ag.new w _ _
  have hcA:ae [] w wA:=by rw [← ay];exact(ae.refl _ _).alloc _
  obtain⟨wB,fB⟩ : ∃ x,wA.alloc (.cells #[str b] 9)=x:=⟨_,rfl⟩
  have vK:ag wB wA.heap.size #[str b] 9:=by rw [← fB];exact ag.new wA _ _
  have hcB:ae [] wA wB:=by rw [← fB];exact(ae.refl _ _).alloc _
  have hcW:ae [] w wB:=hcA.then hcB
  have y0:=vK.cell 0 _ rfl;have x0:=(mU.kept hcB (by simp)).cell 0 _ rfl;cases hab : (a == b) with
  | true=>
   have e : a=b:=by simpa using hab
   subst e;have HC:=zh hcW;clear h mU hcA vK hcB hcW ih
   go_enter Tryz.func51,Tryz.ntmps51
   go_wp2_with fail;go_ret
   exact⟨by rw [adF] <;> rfl,HC.out⟩
  | false=>
   have hne : a≠b:=by simpa using hab
   obtain⟨pv,oa,oc,hfr⟩:=h.front;obtain⟨o,hlk,hat⟩:=adI hfr a;have hl:=hlk wB hcW;have b0:=(hfr.blk.kept hcW (by simp)).cell 0 _ rfl;cases hq:W.M a with
   | none=>
    rw [hq] at hat;simp only at hat;subst hat;have HR:=zh (adE hq hne);have HC:=zh hcW;clear h hfr hlk hq mU hcA vK hcB hcW ih hne
    go_enter Tryz.func51,Tryz.ntmps51
    go_wp2_with fail;go_ret
    exact⟨by rw [HR.out] <;> rfl,HC.out⟩
   | some m=>
    rw [hq] at hat;obtain⟨bp,L,bQ,rfl,hhas,fZ,rfl,jc⟩:=hat;obtain⟨_,dJ,ai,ci,av,cv,ap,cp,ab,cb,fE,es,hp3,hmod,_,_,_⟩:=jc.kept hcW (by simp);obtain⟨vi,vv,vp,vb,nS,hni,_,_,_⟩:=hmod;cases nS
    have p1:=hp3.cell 1 _ rfl;have HR:=zh (adD hq hne);have HC:=zh hcW;have Ua:=mU.kept hcB (by simp);have dM:=zh (T9 89 (fun _ _=>rfl) m.imports dJ.imports (fun n=>sG W.M n b) (ptr w.heap.size) (ptr wA.heap.size) _ _ wB hni (fun n hn w' hc=>by
     have z0:=(Ua.kept hc (by simp)).cell 0 _ rfl;have z1:=(vK.kept hc (by simp)).cell 0 _ rfl;have HI:=zh (ih n ⟨m,hq,hn⟩ w' (hcw.then (hcW.then hc)));clear ih
     go_enter Tryz.func89,Tryz.ntmps89
     go_wp2_with fail;refine HI.out.mono ?_;rintro _ w2 ⟨rfl,hc2⟩;go_wp2_with fail;go_ret
     exact⟨rfl,hc2⟩))
    have hnn : ∀ w,(binOp BinOp.neq 94 (ptr (L.pb a)) aI).run Tryz.prog w = .ok (.bool true) w:=fun _=>rfl
    clear h hfr hlk hq mU hcA vK hcB hcW ih hne jc hp3 hni dJ hhas fZ Ua
    go_enter Tryz.func51,Tryz.ntmps51
    go_wp2_with fail;refine dM.out.mono ?_;rintro _ w2 ⟨rfl,hc2⟩;have aD:=zh (HC.out.then hc2);clear hc2;go_wp2_with fail;go_ret
    exact⟨by rw [HR.out] <;> rfl,aD.out⟩
end Go.Proofs.YtechofppmnnomaaGreatDoor
namespace Go.Mq.Run
open Go Go.RowKit Go.Mq Go.Mq.Tree Go.Mq.Sym
open Go.Mq.Check (fG bZ bK dx)
open Go.Mq.fu (bA getM dG pW)
open Go.Proofs.YtechofppmnnomaaGreatDoor (kP)
structure qp (w:World) (lo b:Nat) (f:Nm→Option (List Int)) (ak:Nm→Option (Nat × Nat)) (au:List Nat):Prop where
 map : ∃ es,bA w b es ∧ ∀ n,getM es n=(ak n).map fun x=>.slice (some ⟨x.1,0,none⟩) x.2 x.2
 inj : ∀ {n k n' k' a},ak n=some (a,k)→ak n'=some (a,k')→n=n'
 arr : ∀ {n a k},ak n=some (a,k)→a∈au∧1≤k∧k≤1000
 low : ∀ {a},a∈au→lo≤a∧a < w.heap.size ∧ ∃ cs,ag w a cs bN
 is : ∀ n,match ak n with
  | some x=>∃ l,f n=some l∧l.length=x.2∧ag w x.1 (ints l).toArray bN
  | none=>f n=none
theorem qp.of {w:World} {lo b:Nat} {l:List bJ} {ak:Nm→Option (Nat × Nat)} {au:List Nat} (h:kP w lo b l ak au):qp w lo b (lU l) ak au:=
 ⟨h.map,h.inj,h.arr,fun ha=>by obtain⟨h1,h2,k,h3⟩:=h.low ha;exact⟨h1,h2,_,h3⟩,fun n=>by
  have:=h.is n;cases hd : ak n with
  | none=>rw [hd] at this;exact this
  | some x=>rw [hd] at this;exact⟨_,this.1,by simp [zeros],this.2⟩⟩
theorem qp.kept {w w':World} {lo b:Nat} {f:Nm→Option (List Int)} {ak:Nm→Option (Nat × Nat)} {au:List Nat} {Z:List Nat} (h:qp w lo b f ak au) (hc:ae Z w w') (hZ : ∀ x∈Z,x≠b∧x∉au):qp w' lo b f ak au:=by
 obtain⟨es,h1,h2⟩:=h.map;refine⟨⟨es,h1.kept hc (fun hm=>(hZ b hm).1 rfl),h2⟩,h.inj,h.arr,fun ha=>?_,fun n=>?_⟩
 ·obtain⟨h3,h4,k,h5⟩:=h.low ha
  exact⟨h3,by have:=hc.size;omega,k,h5.kept hc (fun hm=>(hZ _ hm).2 ha)⟩
 ·have:=h.is n
  cases hd : ak n with
  | none=>rw [hd] at this;exact this
  | some x=>
   rw [hd] at this;obtain⟨l,h3,h4,h5⟩:=this;exact⟨l,h3,h4,h5.kept hc (fun hm=>(hZ _ hm).2 (h.arr (show ak n=some (x.1,x.2) from hd)).1)⟩
theorem qp.put {w w':World} {lo b:Nat} {f:Nm→Option (List Int)} {ak:Nm→Option (Nat × Nat)} {au:List Nat} (h:qp w lo b f ak au) {n:Nm} {a k:Nat} (hd : ak n=some (a,k)) (hc:ae [a] w w') {l:List Int} (hl : l.length=k) (hb:ag w' a (ints l).toArray bN):qp w' lo b (fun n'=>if n'=n then some l else f n') ak au:=by
 obtain⟨es,h1,h2⟩:=h.map;have hab : a≠b:=fun e=>by
  obtain⟨_,_,cs,h3⟩:=h.low (h.arr hd).1;obtain⟨arr,clock,h4,_⟩:=h1
  unfold ag at h3
  rw [e,h4] at h3;cases h3
 refine⟨⟨es,h1.kept hc (fun hm=>by simp at hm;exact hab hm.symm),h2⟩,h.inj,h.arr,fun {x} hx=>?_,fun n'=>?_⟩
 ·obtain⟨h3,h4,cs,h5⟩:=h.low hx
  refine⟨h3,by have:=hc.size;omega,?_⟩;by_cases hxa : x=a
  ·subst hxa;exact⟨_,hb⟩
  ·exact⟨cs,h5.kept hc (by simpa using hxa)⟩
 ·by_cases hn : n'=n
  ·subst hn
   rw [hd];exact⟨l,if_pos rfl,hl,hb⟩
  ·have:=h.is n'
   cases hd' : ak n' with
   | none=>rw [hd'] at this;simpa [hn] using this
   | some x=>
    rw [hd'] at this;obtain⟨l',h3,h4,h5⟩:=this;refine⟨l',by simpa [hn] using h3,h4,h5.kept hc (fun hm=>?_)⟩;simp at hm
    exact hn (h.inj (show ak n'=some (a,x.2) by rw [hd',← hm]) hd)
def Lay.swap (L:Lay) (m:Mod) (Gm:Nat→Prop) (bv:Nat) (ak:Nm→Option (Nat × Nat)) (au:List Nat):Lay:=
 ⟨fun x=>L.Fix x∨Gm x∨x=bv,bI L.M m,fun q=>if q=m.name then ak else L.ak q,L.pb,L.bw,L.br,L.au ++ au⟩
theorem Has.swap {w wS:World} {Own Own' G Gm:Nat→Prop} {bw:Nat} {W:Wd} {L:Lay} {m old:Mod} {lo bv bp:Nat} {ov:Value} {bQ:List (Nm × Value)} {ak:Nm→Option (Nat × Nat)} {au:List Nat} {ai av ap ab:Option Addr} {ci cv cp cb:Nat}
  (h:Has w Own G bw W L) (Ee : ∀ x,Own x→¬ G x∧¬ Gm x) (hlow : ∀ x,Own x∨G x∨Gm x→x < lo) (hlo : lo≤w.heap.size) (hold:W.M m.name=some old) (dJ:fG m)
  (hor:nk w Own G bw W L bp ov bQ)
  (hc:ae [L.pb m.name] w wS)
  (jc:ag wS (L.pb m.name) #[str m.name,.slice ai m.imports.length ci,.slice av m.vars.length cv,.slice ap m.procs.length cp,.slice ab m.body.len cb,.map (some bv)] 102)
  (hmod:kG wS Gm m (.agg #[str m.name,.slice ai m.imports.length ci,.slice av m.vars.length cv,.slice ap m.procs.length cp,.slice ab m.body.len cb]))
  (hva:qp wS lo bv (nC W.vs old m m.name) ak au) (hlb : lo≤bv)
  (hO : ∀ x,Own x→Own' x) (hO2 : ∀ x,lo≤x→x < wS.heap.size→Own' x) :
  Has wS Own' (fun x=>G x∨Gm x) bw ⟨bI W.M m,nC W.vs old m,W.order⟩ (L.swap m Gm bv ak au):=by
 obtain⟨h1,h2,h3,h4,h5,h6,h7⟩:=hor;have hq0:=h7 m.name;rw [hold] at hq0;obtain⟨_,hpo,Ub,⟨_,aiL,_⟩,Ex⟩:=hq0;have tq:L.Fix (L.pb m.name):=Ex.own.1;have sI : ∃ cs,ag w (L.pb m.name) cs 102:=by
  obtain⟨_,_,ai,ci,av,cv,ap,cp,ab,cb,bv,es,h3,_⟩:=Ex;exact⟨_,h3⟩
 obtain⟨tJ,sI⟩:=sI;have Ef : ∀ x,L.Fix x→x < lo:=fun x hx=>by
  rcases h.fix x hx with h1|h1
  ·exact hlow x (.inl h1)
  ·exact hlow x (.inr (.inl h1))
 have jo:=h.home.lay w.heap.size (Nat.le_refl _);have hal : ∀ x∈L.au,¬ L.Fix x∧x < lo∧Own x:=fun x hx=>⟨(jo.au hx).1,hlow x (.inl (h.au x hx)),h.au x hx⟩
 have hs:=hc.size;have Eg : bv < wS.heap.size:=by obtain⟨es,hm,_⟩:=hva.map;exact hm.lt
 have LD : bv∉au:=fun hm=>by
  obtain⟨_,_,cs,hk⟩:=hva.low hm;obtain⟨es,⟨arr,clock,hmm,_⟩,_⟩:=hva.map
  unfold ag at hk
  rw [hk] at hmm;cases hmm
 have Uc : ∀ {b:Nat} {es:List (Nm × Value)},bA w b es→b≠L.pb m.name:=fun {b es} hm e=>by
  obtain⟨arr,clock,hmm,_⟩:=hm
  unfold ag at sI
  rw [← e,hmm] at sI;cases sI
 have Eh : ∀ q,(L.swap m Gm bv ak au).M q=bI W.M m q:=fun q=>by rw [← h.M];rfl
 have adK : bw≠L.pb m.name:=fun e=>by
  unfold ag at sI h1
  rw [← e,h1] at sI;simp at sI
 have adL:L.pb m.name∉blk ov:=fun hm=>by
  rcases h2.2 with⟨rfl,_⟩|⟨g,cap,cur,rfl,_,hg,_⟩
  ·cases hm
  ·simp [blk] at hm;unfold ag at sI;rw [hm,hg] at sI;simp at sI
 have Ud:=h1.kept hc (by simpa using adK);have h2S:=cK h2 hc (fun g hg hm=>by simp at hm;subst hm;exact adL hg);have Ue:=h3.kept hc (by simpa using Uc h3);have He:L.Fix bw:=by rw [← h.lC];exact h.home.stat.own
 have Ir : ∀ q n x,(L.swap m Gm bv ak au).ak q n=some x→(q=m.name∧ak n=some x)∨(q≠m.name∧L.ak q n=some x):=fun q n x hx=>by
  by_cases hqm : q=m.name
  ·exact .inl ⟨hqm,by simpa [Lay.swap,hqm] using hx⟩
  ·exact .inr ⟨hqm,by simpa [Lay.swap,hqm] using hx⟩
 have hsame : ∀ q,q≠m.name→(bI W.M m q=W.M q∧(L.swap m Gm bv ak au).ak q=L.ak q):=fun q hq=>⟨by simp [bI,hq],by simp [Lay.swap,hq]⟩
 have hown : bI W.M m m.name=some m∧(L.swap m Gm bv ak au).ak m.name=ak:=⟨by simp [bI],by simp [Lay.swap]⟩;have hget : ∀ q,(W.M q).isSome=(bI W.M m q).isSome:=fun q=>by
  by_cases hq : q=m.name
  ·subst hq;rw [hown.1,hold];rfl
  ·rw [(hsame q hq).1]
 have hpn:oM wS (fun x=>Gm x∨x=L.pb m.name∨x=bv) m ak (L.pb m.name):=by
  obtain⟨es,hm,hes⟩:=hva.map;exact⟨.inr (.inl rfl),dJ,ai,ci,av,cv,ap,cp,ab,cb,bv,es,jc,hmod.mono (fun x hx=>.inl hx),.inr (.inr rfl),hm,hes⟩
 have hparts : ∀ q,match bI W.M m q with
   | none=>getM bQ q=none
   | some mq=>getM bQ q=some (ptr (L.pb q))∧Own' (L.pb q) ∧ ∃ fE,(Own' fE∧(L.swap m Gm bv ak au).Fix fE∧fE≠bp ∧ ∃ es,bA wS fE es)∧oM wS (fun x=>(L.swap m Gm bv ak au).Fix x∧((G x∨Gm x)∨x=L.pb q∨x=fE)) mq ((L.swap m Gm bv ak au).ak q) (L.pb q):=fun q=>by
  by_cases hqm : q=m.name
  ·subst hqm
   rw [hown.1,hown.2];have:=h7 m.name;rw [hold] at this;have Ry:=hlow bp (.inl h6);refine⟨this.1,hO _ hpo,bv,⟨hO2 bv hlb Eg,.inr (.inr rfl),by omega,by obtain⟨es,hm,_⟩:=hva.map;exact⟨es,hm⟩⟩,hpn.mono (fun x hx=>?_)⟩;rcases hx with hx|rfl|rfl
   ·exact⟨.inr (.inl hx),.inl (.inr hx)⟩
   ·exact⟨.inl tq,.inr (.inl rfl)⟩
   ·exact⟨.inr (.inr rfl),.inr (.inr rfl)⟩
  ·rw [(hsame q hqm).1,(hsame q hqm).2]
   have:=h7 q;cases hq:W.M q with
   | none=>rw [hq] at this;exact this
   | some mq=>
    rw [hq] at this;obtain⟨a1,a2,fE,⟨a3,a4,a6,es,a7⟩,a5⟩:=this;have hv':=Uc a7;refine⟨a1,hO _ a2,fE,⟨hO _ a3,.inl a4,a6,es,a7.kept hc (by simpa using hv')⟩,(a5.kept hc (fun x hx hf=>?_)).mono (fun x hx=>⟨.inl hx.1,by
     rcases hx.2 with h|h
     ·exact .inl (.inl h)
     ·exact .inr h⟩)⟩
    simp at hx
    subst hx;rcases hf.2 with hf|hf|hf
    ·exact(Ee _ hpo).1 hf
    ·exact hqm (h.inj q m.name (by rw [hq];rfl) (by rw [hold];rfl) hf.symm)
    ·exact hv' hf.symm
 have LG : ∀ br,wS.heap.size≤br→CY { L.swap m Gm bv ak au with br:=br }:=fun br hbr=>by
  have hl:=h.home.lay br (by omega);refine⟨fun {q n a k q' n' k'} h1 h2=>?_,fun {q n a k} h1=>?_,fun {a} ha=>?_,fun {x} hx=>?_,fun {q n a k} h1=>?_⟩
  ·rcases Ir q n _ h1 with⟨e1,d1⟩|⟨e1,d1⟩ <;> rcases Ir q' n' _ h2 with⟨e2,d2⟩|⟨e2,d2⟩
   ·exact⟨by rw [e1,e2],hva.inj d1 d2⟩
   ·have:=(hal a (jo.arr d2).1).2.1;have:=(hva.low (hva.arr d1).1).1;omega
   ·have:=(hal a (jo.arr d1).1).2.1;have:=(hva.low (hva.arr d2).1).1;omega
   ·exact jo.inj d1 d2
  ·rcases Ir q n _ h1 with⟨_,d1⟩|⟨_,d1⟩
   ·obtain⟨h3,h4⟩:=hva.arr d1;exact⟨List.mem_append_right _ h3,h4⟩
   ·obtain⟨h3,h4⟩:=jo.arr d1;exact⟨List.mem_append_left _ h3,h4⟩
  ·rcases List.mem_append.1 ha with ha|ha
   ·obtain⟨h3,h4,h5'⟩:=hal a ha
    refine⟨fun hf=>?_,by show a < br;omega⟩;rcases hf with hf|hf|hf
    ·exact h3 hf
    ·exact(Ee a h5').2 hf
    ·subst hf;omega
   ·obtain⟨h3,h4,_⟩:=hva.low ha
    refine⟨fun hf=>?_,by show a < br;omega⟩;rcases hf with hf|hf|hf
    ·have:=Ef a hf;omega
    ·have:=hlow a (.inr (.inr hf));omega
    ·exact LD (hf ▸ ha)
  ·show x < br
   rcases hx with hf|hf|hf
   ·have:=Ef x hf;omega
   ·have:=hlow x (.inr (.inr hf));omega
   ·subst hf;omega
  ·show (bI L.M m q).isSome
   rcases Ir q n _ h1 with⟨e1,_⟩|⟨e1,d1⟩
   ·simp [bI,e1]
   ·have:=jo.there d1
    simpa [bI,e1] using this
 have LH:yL wS (L.swap m Gm bv ak au).ak (nC W.vs old m):=fun q n=>by
  by_cases hqm : q=m.name
  ·subst hqm
   rw [hown.2];have:=hva.is n;cases hd : ak n with
   | none=>rw [hd] at this;exact this
   | some x=>rw [hd] at this;exact this
  ·rw [(hsame q hqm).2]
   have e4 : nC W.vs old m q n=W.vs q n:=by simp [nC,hqm]
   rw [e4];exact(h.home.dyn.kept hc (fun q n b k hd hm=>by simp at hm;subst hm;exact(jo.au (jo.arr hd).1).1 tq)) q n
 refine⟨h.lC,by funext q;exact Eh q,fun x hx=>?_,fun x hx=>?_,⟨LG,⟨.inl (by show L.Fix L.bw;rw [h.lC];exact He),bp,_,ov,by show ag wS L.bw _ _;rw [h.lC];exact Ud,.inl h5,Ue,fun q=>?_⟩,LH,fun {a} ha=>?_⟩,⟨bp,ov,_,Ud,h2S,Ue,fun g hg=>⟨.inl (h4 g hg).1,hO g (h4 g hg).2⟩,.inl h5,hO _ h6,hparts⟩,fun q q' h1 h2 he=>h.inj q q' (by rw [hget q];exact h1) (by rw [hget q'];exact h2) he⟩
 ·rcases hx with hf|hf|hf
  ·rcases h.fix x hf with h1|h1
   ·exact .inl (hO x h1)
   ·exact .inr (.inl h1)
  ·exact .inr (.inr hf)
  ·subst hf;exact .inl (hO2 _ hlb Eg)
 ·rcases List.mem_append.1 hx with hx|hx
  ·exact hO x (h.au x hx)
  ·obtain⟨h3,h4,_⟩:=hva.low hx
   exact hO2 x h3 h4
 ·have:=hparts q
  rw [← Eh q] at this;cases hq : (L.swap m Gm bv ak au).M q with
  | none=>rw [hq] at this;exact this
  | some mq=>
   rw [hq] at this;obtain⟨a1,_,fE,_,a5⟩:=this;exact⟨a1,a5.mono (fun x hx=>hx.1)⟩
 ·rcases List.mem_append.1 ha with ha|ha
  ·obtain⟨cs,f,hh⟩:=h.home.oN ha
   exact⟨cs,f,by rw [hc.block _ (Array.getElem?_eq_some_iff.1 hh).1 (fun hm=>by simp at hm;subst hm;exact(hal _ ha).1 tq)];exact hh⟩
  ·obtain⟨_,_,cs,hk⟩:=hva.low ha
   exact⟨_,_,hk⟩
end Go.Mq.Run
namespace Go.Proofs.YtechofppmnnomaaGreatDoor
open Go Go.RowKit Go.Mq Go.Mq.Tree Go.Mq.Sym Go.Mq.Run
open Go.Mq.Check (eQ qO qP)
set_option maxRecDepth 100000
set_option maxHeartbeats 4000000
theorem Uf {α:Type} (l:List α) (p : α→Bool) : (match l.find? p with|none=>l.any p=false|some _=>l.any p=true):=by
 cases h : l.find? p with
 | none=>simpa using h
 | some x=>simp only [List.any_eq_true];exact⟨x,List.mem_of_find?_eq_some h,List.find?_some h⟩
theorem adN (dY:FuncId) (hF : ∀ (args:Array Value) (w:World),(callFunc dY args).run Tryz.prog w = .ok (.enter dY args) w) (l:List bJ) (hl : l.length≤1000) (p:bJ→Bool) (c1:Value) (F:Nat→Prop) (v:Value) (w:World) (h:lJ w F l v)
  (hf : ∀ x∈l,∀ w',ae [] w w'→Calls Tryz.prog dY #[.agg #[str x.name,num x.pos,num x.len,.bool x.seen],c1] w' (fun e w''=>e = .returned (.bool (p x))∧ae [] w' w'')) :
  Calls Tryz.prog 56 #[v,.func (.func dY) #[] #[c1]] w (fun e w'=>eQ l p e∧ae [] w w'):=by
 obtain⟨a,c,rfl,hac,hrow⟩:=h;have fH:=zh hrow;have HF:=zh hf;clear hrow hf
 go_enter Tryz.func56,Tryz.ntmps56
 go_wp2_with fail
 go_loopw [5,8] (fun _ i wr=>∃ k:Nat,i = .int .i64 k∧k≤l.length∧ae [] w wr ∧ ∀ (i:Nat) (x:bJ),i < k→l[i]?=some x→p x=false) (fun _ i _=>l.length - (intOf i).toNat)
 case atStart=>exact⟨0,rfl,Nat.zero_le _,ae.refl _ _,fun i x hi=>by omega⟩
 case round=>
  obtain⟨k,rfl,hk,hc,hno⟩:=hrel;have eu:=zh hno;have HC:=zh hc;clear hno hc;by_cases hlt : k < l.length
  ·obtain⟨s,hs⟩ : ∃ s,l[k]?=some s:=⟨l[k],List.getElem?_eq_getElem hlt⟩
   obtain⟨bb,off,rfl,d0,d1,d2,d3⟩:=Check.AL (fH.out.kept HC.out (by simp)) hs;have HS:=zh hs;have HI:=zh (HF.out s (List.mem_of_getElem? hs) wr HC.out);clear hs;cases hq : p s with
   | true=>
    rw [hq] at HI;have HR:=zh (show l.find? p=some s from qO HS.out hq eu.out);clear hq;go_wp2_with fail;refine HI.out.mono ?_;rintro _ w2 ⟨rfl,hq⟩;have HQ:=zh (HC.out.then hq);clear hq;go_wp2_with fail;go_ret
    refine⟨?_,HQ.out⟩;rw [eQ,HR.out];exact⟨k,HS.out,rfl⟩
   | false=>
    rw [hq] at HI;have HN:=zh hq;clear hq;go_wp2_with fail;refine HI.out.mono ?_;rintro _ w2 ⟨rfl,hq⟩;have HQ:=zh (HC.out.then hq);clear hq;go_wp2_with fail;refine⟨⟨k + 1,by go_num,by omega,HQ.out,fun i x hi hx=>?_⟩,by simp [intOf];omega⟩;by_cases he : i < k
    ·exact eu.out i x he hx
    ·have : i=k:=by omega
     subst this;rw [HS.out] at hx;cases hx
     exact HN.out
  ·have HR:=zh (show l.find? p=none from qP fun i x hx=>eu.out i x (by have:=(List.getElem?_eq_some_iff.1 hx).1;omega) hx)
   go_wp2_with fail;go_ret
   exact⟨by rw [eQ,HR.out] <;> rfl,HC.out⟩
theorem adO (dY:FuncId) (hF : ∀ (args:Array Value) (w:World),(callFunc dY args).run Tryz.prog w = .ok (.enter dY args) w) (l:List bJ) (hl : l.length≤1000) (p:bJ→Bool) (c1:Value) (F:Nat→Prop) (v:Value) (w:World) (h:lJ w F l v)
  (hf : ∀ x∈l,∀ w',ae [] w w'→Calls Tryz.prog dY #[.agg #[str x.name,num x.pos,num x.len,.bool x.seen],c1] w' (fun e w''=>e = .returned (.bool (p x))∧ae [] w' w'')) :
  Calls Tryz.prog 25 #[v,.func (.func dY) #[] #[c1]] w (fun e w'=>e = .returned (.bool (l.any p))∧ae [] w w'):=by
 have HI:=zh (adN dY hF l hl p c1 F v w h hf);clear h hf
 go_enter Tryz.func25,Tryz.ntmps25
 go_wp2_with fail;refine HI.out.mono ?_;rintro e w1 ⟨hat,hc⟩;have HC:=zh hc;have gN:=Uf l p;clear hc;rw [eQ] at hat;cases hx : l.find? p with
 | none=>
  rw [hx] at hat gN;simp only at hat;subst hat;have sH:=zh (show l.any p=false from gN);clear gN hx;go_wp2_with fail;go_ret
  exact⟨by rw [sH.out] <;> rfl,HC.out⟩
 | some x=>
  rw [hx] at hat gN;obtain⟨k,hk,rfl⟩:=hat;have sH:=zh (show l.any p=true from gN);have hkz : decide ((0:Int)≤(k:Int))=true:=by simp
  clear gN hx hk;go_wp2_with fail;go_ret
  exact⟨by rw [sH.out] <;> simp,HC.out⟩
theorem adP (g x:bJ) (b15:Nat) (w:World) (hb:ag w b15 #[str g.name,num g.pos,num g.len,.bool g.seen] 68) :
  Calls Tryz.prog 55 #[.agg #[str x.name,num x.pos,num x.len,.bool x.seen],ptr b15] w (fun e w'=>e = .returned (.bool (x.name == g.name && x.len == g.len))∧ae [] w w'):=by
 have z:=ag.new w #[str x.name,num x.pos,num x.len,.bool x.seen] 68;have hb':=hb.kept ((ae.refl [] w).alloc (.cells #[str x.name,num x.pos,num x.len,.bool x.seen] 68)) (by simp);have z0:=z.cell 0 _ rfl;have z2:=z.cell 2 _ rfl;have g0:=hb'.cell 0 _ rfl;have g2:=hb'.cell 2 _ rfl;clear hb z hb';cases hq : (x.name == g.name) <;> cases hq2 : (x.len == g.len)
 all_goals
  go_enter Tryz.func55,Tryz.ntmps55
  go_wp2_with fail
  all_goals go_ret
  all_goals exact⟨rfl,(ae.refl _ _).alloc _⟩
end Go.Proofs.YtechofppmnnomaaGreatDoor
namespace Go.Mq.Run
open Go Go.RowKit Go.Mq Go.Mq.Tree Go.Mq.Sym
open Go.Mq.Check (AJ)
structure Ac where
 what:Int
 text:List UInt8
 name:List UInt8
 proc:List UInt8
 args:List Int
 ad:Option Addr
 cap:Nat
def Ac.cells (x:Ac):List Value:=[num x.what,str x.text,str x.name,str x.proc,.slice x.ad x.args.length x.cap]
structure Ey (w:World) (F:Nat→Prop) (l:List Ac) (a:Option Addr):Prop where
 row:Row w F a (l.flatMap Ac.cells)
 args : ∀ x∈l,x.args.length≤x.cap∧Row w F x.ad (ints x.args)
theorem Ey.kept {Z:List Nat} {w w':World} {F:Nat→Prop} {l:List Ac} {a:Option Addr} (h:Ey w F l a) (hc:ae Z w w') (hZ : ∀ x∈Z,¬ F x):Ey w' F l a:=
 ⟨h.row.kept hc hZ,fun x hx=>⟨(h.args x hx).1,(h.args x hx).2.kept hc hZ⟩⟩
theorem flat5 : ∀ l:List Ac,(l.flatMap Ac.cells).length=l.length * 5
 | []=>rfl
 | x :: r=>by rw [List.flatMap_cons,List.length_append,flat5 r];simp [Ac.cells];omega
theorem MB {w:World} {F:Nat→Prop} {a:Option Addr} {l:List Ac} (h:Row w F a (l.flatMap Ac.cells)) {k:Nat} {g:Ac} (hk : l[k]?=some g) :
  ∃ bb off,a=some ⟨bb,off,none⟩∧w.cell? ⟨bb,off + k * 5,none⟩=some (num g.what)∧w.cell? ⟨bb,off + k * 5 + 1,none⟩=some (str g.text)∧w.cell? ⟨bb,off + k * 5 + 2,none⟩=some (str g.name)∧w.cell? ⟨bb,off + k * 5 + 3,none⟩=some (str g.proc)∧w.cell? ⟨bb,off + k * 5 + 4,none⟩=some (.slice g.ad g.args.length g.cap):=by
 obtain⟨h1,h2⟩:=AJ hk;have hn : 0 < (l.flatMap Ac.cells).length:=by rw [flat5];have:=(List.getElem?_eq_some_iff.1 hk).1;omega
 obtain⟨bb,off,rfl,hc⟩:=h.at_ hn;have hg : ∀ i v,g.cells[i]?=some v→w.cell? ⟨bb,off + k * 5 + i,none⟩=some v:=fun i v hv=>by
  have:=hc (k * 5 + i) v (by
   rw [h1,List.flatMap_append,List.flatMap_cons,List.getElem?_append_right (by rw [flat5,h2];omega),flat5,h2,show k * 5 + i - k * 5=i by omega,List.getElem?_append_left (List.getElem?_eq_some_iff.1 hv).1];exact hv)
  rw [← Nat.add_assoc] at this;exact this
 exact⟨bb,off,rfl,hg 0 _ rfl,hg 1 _ rfl,hg 2 _ rfl,hg 3 _ rfl,hg 4 _ rfl⟩
def xS (x:Ac):Bool:=decide (1000 < x.text.length) || decide (40 < x.name.length) || decide (40 < x.proc.length) || decide (10 < x.args.length)
def xU (l:List Ac):Bool:=decide (l.length≤12) && !(l.any xS)
end Go.Mq.Run
namespace Go.Proofs.YtechofppmnnomaaGreatDoor
open Go Go.RowKit Go.Mq Go.Mq.Tree Go.Mq.Sym Go.Mq.Run
open Go.Mq.Check (eQ qO qP)
set_option maxRecDepth 100000
set_option maxHeartbeats 4000000
theorem adQ (cs:Array Value) (dY:FuncId) (hF : ∀ (args:Array Value) (w:World),(callFunc dY args).run Tryz.prog w = .ok (.enter dY args) w) (l:List Ac) (hl : l.length≤1000) (p:Ac→Bool) (F:Nat→Prop) (a:Option Addr) (c:Nat) (w:World) (hrow:Row w F a (l.flatMap Ac.cells))
  (hf : ∀ x∈l,∀ w',ae [] w w'→Calls Tryz.prog dY (#[.agg #[num x.what,str x.text,str x.name,str x.proc,.slice x.ad x.args.length x.cap]] ++ cs) w' (fun e w''=>e = .returned (.bool (p x))∧ae [] w' w'')) :
  Calls Tryz.prog 47 #[.slice a l.length c,.func (.func dY) #[] cs] w (fun e w'=>eQ l p e∧ae [] w w'):=by
 have fH:=zh hrow;have HF:=zh hf;clear hrow hf
 go_enter Tryz.func47,Tryz.ntmps47
 go_wp2_with fail
 go_loopw [5,8] (fun _ i wr=>∃ k:Nat,i = .int .i64 k∧k≤l.length∧ae [] w wr ∧ ∀ (i:Nat) (x:Ac),i < k→l[i]?=some x→p x=false) (fun _ i _=>l.length - (intOf i).toNat)
 case atStart=>exact⟨0,rfl,Nat.zero_le _,ae.refl _ _,fun i x hi=>by omega⟩
 case round=>
  obtain⟨k,rfl,hk,hc,hno⟩:=hrel;have eu:=zh hno;have HC:=zh hc;clear hno hc;by_cases hlt : k < l.length
  ·obtain⟨s,hs⟩ : ∃ s,l[k]?=some s:=⟨l[k],List.getElem?_eq_getElem hlt⟩
   obtain⟨bb,off,rfl,d0,d1,d2,d3,d4⟩:=MB (fH.out.kept HC.out (by simp)) hs;have HS:=zh hs;have HI:=zh (HF.out s (List.mem_of_getElem? hs) wr HC.out);clear hs;cases hq : p s with
   | true=>
    rw [hq] at HI;have HR:=zh (show l.find? p=some s from qO HS.out hq eu.out);clear hq;go_wp2_with fail;refine HI.out.mono ?_;rintro _ w2 ⟨rfl,hq⟩;have HQ:=zh (HC.out.then hq);clear hq;go_wp2_with fail;go_ret
    refine⟨?_,HQ.out⟩;rw [eQ,HR.out];exact⟨k,HS.out,rfl⟩
   | false=>
    rw [hq] at HI;have HN:=zh hq;clear hq;go_wp2_with fail;refine HI.out.mono ?_;rintro _ w2 ⟨rfl,hq⟩;have HQ:=zh (HC.out.then hq);clear hq;go_wp2_with fail;refine⟨⟨k + 1,by go_num,by omega,HQ.out,fun i x hi hx=>?_⟩,by simp [intOf];omega⟩;by_cases he : i < k
    ·exact eu.out i x he hx
    ·have : i=k:=by omega
     subst this;rw [HS.out] at hx;cases hx
     exact HN.out
  ·have HR:=zh (show l.find? p=none from qP fun i x hx=>eu.out i x (by have:=(List.getElem?_eq_some_iff.1 hx).1;omega) hx)
   go_wp2_with fail;go_ret
   exact⟨by rw [eQ,HR.out] <;> rfl,HC.out⟩
theorem Ug (cs:Array Value) (dY:FuncId) (hF : ∀ (args:Array Value) (w:World),(callFunc dY args).run Tryz.prog w = .ok (.enter dY args) w) (l:List Ac) (hl : l.length≤1000) (p:Ac→Bool) (F:Nat→Prop) (a:Option Addr) (c:Nat) (w:World) (hrow:Row w F a (l.flatMap Ac.cells))
  (hf : ∀ x∈l,∀ w',ae [] w w'→Calls Tryz.prog dY (#[.agg #[num x.what,str x.text,str x.name,str x.proc,.slice x.ad x.args.length x.cap]] ++ cs) w' (fun e w''=>e = .returned (.bool (p x))∧ae [] w' w'')) :
  Calls Tryz.prog 20 #[.slice a l.length c,.func (.func dY) #[] cs] w (fun e w'=>e = .returned (.bool (l.any p))∧ae [] w w'):=by
 have HI:=zh (adQ cs dY hF l hl p F a c w hrow hf);clear hrow hf
 go_enter Tryz.func20,Tryz.ntmps20
 go_wp2_with fail;refine HI.out.mono ?_;rintro e w1 ⟨hat,hc⟩;have HC:=zh hc;have gN:=Uf l p;clear hc;rw [eQ] at hat;cases hx : l.find? p with
 | none=>
  rw [hx] at hat gN;simp only at hat;subst hat;have sH:=zh (show l.any p=false from gN);clear gN hx;go_wp2_with fail;go_ret
  exact⟨by rw [sH.out] <;> rfl,HC.out⟩
 | some x=>
  rw [hx] at hat gN;obtain⟨k,hk,rfl⟩:=hat;have sH:=zh (show l.any p=true from gN);have hkz : decide ((0:Int)≤(k:Int))=true:=by simp
  clear gN hx hk;go_wp2_with fail;go_ret
  exact⟨by rw [sH.out] <;> simp,HC.out⟩
theorem adR (x:Ac) (w:World) (ht : x.text.length≤9223372036854775807) (hn : x.name.length≤9223372036854775807) (hp : x.proc.length≤9223372036854775807) (hr : x.args.length≤9223372036854775807) :
  Calls Tryz.prog 46 #[.agg #[num x.what,str x.text,str x.name,str x.proc,.slice x.ad x.args.length x.cap]] w (fun e w'=>e = .returned (.bool (xS x))∧ae [] w w'):=by
 have z:=ag.new w #[num x.what,str x.text,str x.name,str x.proc,.slice x.ad x.args.length x.cap] 57;have z1:=z.cell 1 _ rfl;have z2:=z.cell 2 _ rfl;have z3:=z.cell 3 _ rfl;have z4:=z.cell 4 _ rfl;clear z
 go_enter Tryz.func46,Tryz.ntmps46
 go_wp2_with fail
 all_goals go_ret
 all_goals refine⟨?_,(ae.refl _ _).alloc _⟩
 all_goals
  show Ending.returned (Value.bool _)=Ending.returned (Value.bool (xS x))
  congr 2
  simp only [xS];have e1 : ((1000:Int) < (x.text.length:Int))↔1000 < x.text.length:=by omega
  have e2 : ((40:Int) < (x.name.length:Int))↔40 < x.name.length:=by omega
  have e3 : ((40:Int) < (x.proc.length:Int))↔40 < x.proc.length:=by omega
  have e4 : ((10:Int) < (x.args.length:Int))↔10 < x.args.length:=by omega
  simp_all
theorem adS (l:List Ac) (hl : l.length≤9223372036854775807) (F:Nat→Prop) (a:Option Addr) (c:Nat) (w:World) (hrow:Row w F a (l.flatMap Ac.cells))
  (hf : ∀ x∈l,x.text.length≤9223372036854775807∧x.name.length≤9223372036854775807∧x.proc.length≤9223372036854775807∧x.args.length≤9223372036854775807) :
  Calls Tryz.prog 19 #[.slice a l.length c] w (fun e w'=>e = .returned (.bool (xU l))∧ae [] w w'):=by
 by_cases hx : l.length≤12
 rotate_left
 ·have h1 : decide (l.length≤12)=false:=by simpa using hx
  have HS:=zh (show xU l=(decide (l.length≤12) && !(l.any xS)) from rfl);rw [h1] at HS;clear hrow hf
  go_enter Tryz.func19,Tryz.ntmps19
  go_wp2_with fail;go_ret
  exact⟨by rw [HS.out] <;> rfl,ae.refl _ _⟩
 ·have h1 : decide (l.length≤12)=true:=by simpa using hx
  have HS:=zh (show xU l=(decide (l.length≤12) && !(l.any xS)) from rfl);rw [h1] at HS;have HC:=zh (Ug #[] 46 (fun _ _=>rfl) l (by omega) xS F a c w hrow (fun x hx w' hc=>by
   obtain⟨f1,f2,f3,f4⟩:=hf x hx;exact adR x w' f1 f2 f3 f4))
  clear hrow hf
  go_enter Tryz.func19,Tryz.ntmps19
  go_wp2_with fail;refine HC.out.mono ?_;rintro _ w1 ⟨rfl,hc⟩;have cB:=zh hc;clear hc;go_wp2_with fail;go_ret
  exact⟨by rw [HS.out] <;> simp,cB.out⟩
end Go.Proofs.YtechofppmnnomaaGreatDoor
namespace Go.Mq.Run
open Go Go.RowKit Go.Mq Go.Mq.Tree Go.Mq.Sym
open Go.Mq.Check (check Out)
def up (n:Nat) (s:St):St:={ s with fuel:=s.fuel + n }
def yH {α:Type} (s:St) (o:O α):Prop:=match o with
 | .ok _ s'=>s.out <+: s'.out
 | .stop _ s'=>s.out <+: s'.out
 | .stuck=>True
def nZ {α:Type} (n:Nat) (a b:O α):Prop:=match a with
 | .ok x s=>b = .ok x (up n s)
 | .stop w s=>if w=5 then yH s b else b = .stop w (up n s)
 | .stuck=>True
structure gG {α:Type} (n:Nat) (f:St→O α):Prop where
 mo : ∀ s,nZ n (f s) (f (up n s))
 al : ∀ s,Al (fun s s'=>s.out <+: s'.out) s (f s)
variable {n:Nat}
theorem gG.bind {α β:Type} {f:St→O α} {g : α→St→O β} (hf:gG n f) (hg : ∀ x,gG n (g x)):gG n (fun s=>(f s).bind g) where
 al s:=Al.bind DI (hf.al s) fun a s'=>(hg a).al s'
 mo s:=by
  have h:=hf.mo s
  show nZ n ((f s).bind g) ((f (up n s)).bind g)
  cases hfs : f s with
  | stuck=>trivial
  | ok x s1=>
   rw [hfs] at h;have h : f (up n s) = .ok x (up n s1):=h;rw [h];exact(hg x).mo s1
  | stop w s1=>
   rw [hfs] at h;by_cases hw : w=5
   ·subst hw
    have h:yH s1 (f (up n s)):=h
    show yH s1 ((f (up n s)).bind g)
    cases hb : f (up n s) with
    | stuck=>trivial
    | stop w2 s2=>rw [hb] at h;exact h
    | ok x s2=>
     rw [hb] at h;have h : s1.out <+: s2.out:=h;have h2:=(hg x).al s2
     show yH s1 (g x s2)
     cases hx : g x s2 with
     | stuck=>trivial
     | stop w3 s3=>rw [hx] at h2;exact List.IsPrefix.trans h h2
     | ok y s3=>rw [hx] at h2;exact List.IsPrefix.trans h h2
   ·have h : f (up n s) = .stop w (up n s1):=by simpa [nZ,hw] using h
    rw [h];simp [nZ,hw,O.bind]
theorem gG.ok {α:Type} (x : α):gG n (fun s=>.ok x s):=⟨fun _=>rfl,fun _=>List.prefix_rfl⟩
theorem gG.stop {α:Type} (w:Nat) (hw : w≠5):gG n (fun s=>(.stop w s:O α)):=⟨fun s=>by simp [nZ,hw],fun _=>List.prefix_rfl⟩
theorem gG.stuck {α:Type} : gG n (fun _=>(.stuck:O α)):=⟨fun _=>trivial,fun _=>trivial⟩
theorem gG.ite {α:Type} (c:Prop) [Decidable c] {f g:St→O α} (hf:gG n f) (hg:gG n g):gG n (fun s=>if c then f s else g s):=by
 by_cases h : c
 ·simpa only [if_pos h] using hf
 ·simpa only [if_neg h] using hg
theorem zS:gG n tick where
 al s:=oZ DI s
 mo s:=by
  unfold tick
  by_cases h : s.fuel=0
  ·rw [if_pos h]
   show yH s _
   split
   ·exact List.prefix_rfl
   ·exact List.prefix_rfl
  ·rw [if_neg h,if_neg (by show s.fuel + n≠0;omega)]
   show O.ok () _=O.ok () _
   simp only [up]
   congr 2
   omega
theorem adT (q x:Nm) (k:Int):gG n (fun s=>ib (s.vs q x) k s) where
 al s:=QY DI _ _ _
 mo s:=by
  show nZ n (ib (s.vs q x) k s) (ib (s.vs q x) k (up n s))
  unfold ib
  split
  ·simp [nZ]
  ·split
   ·rfl
   ·simp [nZ]
theorem Uh (q x:Nm):gG n (fun s=>fV (s.vs q x) s) where
 al s:=KM DI _ _
 mo s:=by
  show nZ n (fV (s.vs q x) s) (fV (s.vs q x) (up n s))
  unfold fV
  split
  ·rfl
  ·trivial
theorem adU (q:Nm) (fr:Fr) (x:Nm) (k v:Int):gG n (fun s=>ic q fr x k v s) where
 al s:=KN DI _ _ _ _ _ _
 mo s:=by
  show nZ n (ic q fr x k v s) (ic q fr x k v (up n s))
  unfold ic
  split
  ·rfl
  ·show nZ n (match s.vs q x with
    | none=>.stop 3 s
    | some l=>if 0≤k∧k < l.length then O.ok (Fl.go,fr) { s with vs:=oU s.vs q x (l.set k.toNat v) } else .stop 3 s) (match s.vs q x with
    | none=>.stop 3 (up n s)
    | some l=>if 0≤k∧k < l.length then O.ok (Fl.go,fr) { (up n s) with vs:=oU s.vs q x (l.set k.toNat v) } else .stop 3 (up n s))
   cases s.vs q x with
   | none=>simp [nZ]
   | some l=>
    simp only;split
    ·rfl
    ·simp [nZ]
theorem adV (fr:Fr) (k:Int):gG n (fun s=>if s.out.length=200 then O.stop 6 s else .ok (Fl.go,fr) { s with out:=s.out ++ [k] }) where
 al s:=by
  show Al _ s (if s.out.length=200 then O.stop 6 s else .ok (Fl.go,fr) { s with out:=s.out ++ [k] })
  split
  ·exact List.prefix_rfl
  ·exact List.prefix_append _ _
 mo s:=by
  show nZ n (if s.out.length=200 then O.stop 6 s else .ok (Fl.go,fr) { s with out:=s.out ++ [k] }) (if s.out.length=200 then O.stop 6 (up n s) else .ok (Fl.go,fr) { (up n s) with out:=s.out ++ [k] })
  split
  ·simp [nZ]
  ·rfl
structure MC (n:Nat) (F:kM):Prop where
 e : ∀ d q fr x,gG n (F.e d q fr x)
 es : ∀ d q fr x,gG n (F.es d q fr x)
 c : ∀ d q p a,gG n (F.c d q p a)
 b : ∀ d q fr x,gG n (F.b d q fr x)
 l : ∀ d q fr v t,gG n (F.l d q fr v t)
theorem adW {M:Ms} {F:kM} (h:MC n F):MC n ⟨kg M F,qV F,lq F,mY F,uX F⟩ where
 e d q fr x:=by
  show gG n (kg M F d q fr x)
  cases x with
  | num p k=>exact .ok _
  | var p m k=>
   show gG n (fun s=>if m=[] then match dN fr k with
    | some v=>O.ok v s
    | none=>fV (s.vs q k) s
   else fV (s.vs m k) s)
   refine .ite _ ?_ (Uh _ _);cases dN fr k with
   | none=>exact Uh _ _
   | some v=>exact .ok _
  | item p m k i=>exact .ite _ (.bind (h.e _ _ _ _) fun x=>adT _ _ _) .stuck
  | un p op x=>exact .bind (h.e _ _ _ _) fun _=>.ok _
  | bin p op x y=>
   refine .bind (h.e _ _ _ _) fun a=>.ite _ (.ite _ (.ok _) (.bind (h.e _ _ _ _) fun _=>.ok _)) (.bind (h.e _ _ _ _) fun b=>?_)
   show gG n (fun s=>match both op a b with
    | some k=>O.ok k s
    | none=>.stop 2 s)
   cases both op a b with
   | none=>exact .stop _ (by decide)
   | some k=>exact .ok _
  | app p m k l=>
   show gG n (fun s=>match M (bV q m) with
    | none=>.stuck
    | some mo=>match mo.procs.find? fun p=>p.name == k with
     | none=>.stuck
     | some p=>(F.es d q fr l s).bind fun args s=>F.c d (bV q m) p args s)
   cases M (bV q m) with
   | none=>exact .stuck
   | some mo=>
    show gG n (fun s=>match mo.procs.find? fun p=>p.name == k with
     | none=>.stuck
     | some p=>(F.es d q fr l s).bind fun args s=>F.c d (bV q m) p args s)
    cases mo.procs.find? fun p=>p.name == k with
    | none=>exact .stuck
    | some p=>exact .bind (h.es _ _ _ _) fun a=>h.c _ _ _ _
  | nil=>exact .stuck
  | cons x r=>exact .stuck
 es d q fr x:=by
  show gG n (qV F d q fr x)
  cases x with
  | nil=>exact .ok _
  | cons x r=>exact .bind (h.e _ _ _ _) fun k=>.bind (h.es _ _ _ _) fun _=>.ok _
  | _=>exact .stuck
 c d q p a:=by
  exact .ite _ (.stop _ (by decide)) (.ite _ .stuck (.bind (h.b _ _ _ _) fun _=>.ok _))
 b d q fr x:=by
  refine .ite _ (.ok _) (.bind ?_ fun x=>?_)
  ·show gG n (fun s=>nU F d q fr _ s)
   cases x with
   | nil=>exact .stuck
   | set p k i v r=>
    refine .bind zS fun _=>.bind ?_ fun k=>.bind (h.e _ _ _ _) fun v=>adU _ _ _ _ _
    cases i with
    | none=>exact .ok _
    | some i=>exact h.e _ _ _ _
   | ifs p v t e r=>exact .bind zS fun _=>.bind (h.e _ _ _ _) fun k=>.ite _ (h.b _ _ _ _) (h.b _ _ _ _)
   | dB p v t r=>exact .bind zS fun _=>h.l _ _ _ _ _
   | ret p v r=>exact .bind zS fun _=>.bind (h.e _ _ _ _) fun _=>.ok _
   | dD p v r=>exact .bind zS fun _=>.bind (h.e _ _ _ _) fun k=>adV _ _
   | call p v r=>exact .bind zS fun _=>.bind (h.e _ _ _ _) fun _=>.ok _
  ·obtain⟨x1,x2⟩:=x
   cases x1 with
   | go=>exact h.b _ _ _ _
   | ret k=>exact .ok _
 l d q fr v t:=by
  refine .bind (h.e _ _ _ _) fun k=>.ite _ (.ok _) (.bind (h.b _ _ _ _) fun x=>?_)
  obtain⟨x1,x2⟩:=x;cases x1 with
  | go=>exact .bind zS fun _=>h.l _ _ _ _ _
  | ret k=>exact .ok _
theorem more (M:Ms) (n:Nat) : ∀ g,MC n (fns M g)
 | 0=>⟨fun _ _ _ _=>.stuck,fun _ _ _ _=>.stuck,fun _ _ _ _=>.stuck,fun _ _ _ _=>.stuck,fun _ _ _ _ _=>.stuck⟩
 | g + 1=>adW (more M n g)
theorem Ui {g g':Nat} (h : g≤g') {W:Wd} {m:Mod} {fuel:Nat} {r:Wd × Nat × List Int × Out} (hr : jG g W m fuel=some r) : jG g' W m fuel=some r:=by
 unfold jG at hr ⊢
 split at hr
 ·rename_i h1;rw [if_pos h1];exact hr
 ·rename_i h1
  rw [if_neg h1];cases hc : check m (dL W.M) with
  | fine=>
   rw [hc] at hr;simp only at hr ⊢;split at hr
   ·rename_i h2;rw [if_pos h2];exact hr
   ·rename_i h2
    rw [if_neg h2];rcases (zK (bI W.M m) h).b 0 m.name [] m.body ⟨fuel,[],ig W.vs m⟩ with he|he
    ·rw [he] at hr;cases hr
    ·rw [← he];exact hr
  | plain k=>rw [hc] at hr;exact hr
  | at_ e p=>rw [hc] at hr;exact hr
theorem Uj:Ba fun s s'=>s.out.length≤200→s'.out.length≤200:=⟨fun _ h=>h,fun h k l=>k (h l),fun _ _ h=>h,fun s n hn h=>by simp only [List.length_append,List.length_cons,List.length_nil];omega,fun _ _ _ _ _ _ _ h=>h⟩
theorem adX {W:Wd} {m:Mod} {g f:Nat} {r:Wd × Nat × List Int × Out} (h : jG g W m f=some r) : r.2.2.1.length≤200:=by
 unfold jG at h
 split at h
 ·cases h;simp
 ·cases hc : check m (dL W.M) with
  | plain k=>rw [hc] at h;cases h;simp
  | at_ e p=>rw [hc] at h;cases h;simp
  | fine=>
   rw [hc] at h;simp only at h;split at h
   ·cases h;simp
   ·have ha:=(along Uj (bI W.M m) g).b 0 m.name [] m.body ⟨f,[],ig W.vs m⟩
    cases hb : (fns (bI W.M m) g).b 0 m.name [] m.body ⟨f,[],ig W.vs m⟩ with
    | stuck=>rw [hb] at h;cases h
    | ok x s=>rw [hb] at h ha;cases h;exact ha (by simp)
    | stop w s=>rw [hb] at h ha;cases h;exact ha (by simp)
end Go.Mq.Run
namespace Go.Proofs.YtechofppmnnomaaGreatDoor
open Go Go.RowKit Go.Mq Go.Mq.Tree Go.Mq.Sym Go.Mq.Run
open Go.Mq.Check (check Out)
noncomputable def qw (g:Nat) (W:Wd) (x:Ac) (fuel:Nat):Option (Wd × Nat × List Int × Int × Int):=
 if x.what=1 then (kr g W x.name x.proc x.args fuel).map fun r=>(r.1,r.2.1,r.2.2.1,r.2.2.2.1,q8 r.2.2.2.2)
 else match parse x.text with
 | .bad en _=>some (W,0,[],0,en)
 | .ok m=>if x.what=2 then some ((iE W m).1,0,[],0,q8 (iE W m).2)
  else (jG g W m fuel).map fun r=>(r.1,r.2.1,r.2.2.1,0,q8 r.2.2.2)
theorem Uk {W:Wd} (hI:Inv W) {x:Ac} (ht : x.text.length≤1000) (fuel:Nat) : ∃ g r,qw g W x fuel=some r∧Inv r.1:=by
 by_cases h1 : x.what=1
 ·obtain⟨g,r,h2,h3⟩:=adb hI x.name x.proc x.args fuel
  exact⟨g,_,by rw [qw,if_pos h1,h2];rfl,h3⟩
 ·cases hp : parse x.text with
  | bad en p=>exact⟨0,_,by rw [qw,if_neg h1,hp],hI⟩
  | ok m=>
   have hg:=zD ht hp;by_cases h2 : x.what=2
   ·exact⟨0,((iE W m).1,0,[],0,q8 (iE W m).2),by rw [qw,if_neg h1,hp];simp only [h2,if_true],adg hI hg⟩
   ·obtain⟨g,r,h3,h4⟩:=TH hI hg fuel
    exact⟨g,_,by rw [qw,if_neg h1,hp];simp only [h2,if_false,h3];rfl,h4⟩
end Go.Proofs.YtechofppmnnomaaGreatDoor
