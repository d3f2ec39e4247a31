/- Some texts in one. -/
import Derived.Laws.BytesString
import Derived.Laws.CopyRow
import Derived.Test.YtechofppmnnomaaGreatDoorG2
import Derived.Test.YtechofppmnnomaaGreatDoorG27
namespace Go.Proofs.YtechofppmnnomaaGreatDoor
open Go Go.RowKit Go.Mq Go.Mq.Tree Go.Mq.Sym Go.Mq.Run
def pairT (u:Int):List UInt8:=[UInt8.ofNat (IntKind.u64.wrap (97 + bits BinOp.and IntKind.u64 u 15) % 256).toNat,UInt8.ofNat (IntKind.u64.wrap (97 + bits BinOp.and IntKind.u64 (u / 16) 15) % 256).toNat]
def valT:Nat→Int→List UInt8
 | 0,_=>[]
 | k + 1,u=>pairT u ++ valT k (u / 256)
def listT (l:List Int):List UInt8:=l.flatMap fun x=>valT 8 (IntKind.u64.wrap x)
def varT (W:Wd) (q v:Nm):List UInt8:=match getW W q v with
 | none=>[45]
 | some l=>v ++ listT l
def vnames:List Nm:=[[120],[121],[116],[117],[122]]
def modT (W:Wd) (q:Nm):List UInt8:=q ++ vnames.flatMap (varT W q) ++ [59]
def allT (W:Wd):List UInt8:=W.order.flatMap (modT W)
theorem bs_app (a b:List UInt8) : bs a ++ bs b=bs (a ++ b):=by
 apply ByteArray.ext
 simp [bs]
theorem flat_take {α:Type} {l:List α} {k:Nat} {x : α} (h : l[k]?=some x) (f : α→List UInt8) : (l.take (k + 1)).flatMap f=(l.take k).flatMap f ++ f x:=by
 rw [take_get h,List.flatMap_append];simp
set_option maxRecDepth 100000
set_option maxHeartbeats 4000000
theorem pair_conv (w:World) (n1 n2:Int) : (convert 114 9 (.slice (some ⟨w.heap.size,0,none⟩) 2 2)).run Tryz.prog (w.alloc (.cells #[.int .u8 n1,.int .u8 n2] 5)) = .ok (.string (bs [UInt8.ofNat n1.toNat,UInt8.ofNat n2.toNat])) (w.alloc (.cells #[.int .u8 n1,.int .u8 n2] 5)):=by
 rw [run_convert_bytes_string _ _ _ 5 _ _ _ Tryz.underlying114 Tryz.underlying5 Tryz.underlying9];refine run_bytesToString _ ⟨w.heap.size,0,none⟩ 2 2 [n1,n2] ?_;have hz:=Blk.new w #[.int .u8 n1,.int .u8 n2] 5;exact run_loadCells_list _ _ [.int .u8 n1,.int .u8 n2] (fun j v hv=>by
  match j,hv with
  | 0,hv=>cases hv;exact hz.cell 0 _ rfl
  | 1,hv=>cases hv;exact hz.cell 1 _ rfl)
theorem wrap_u (x:Int) : 0≤IntKind.u64.wrap x∧IntKind.u64.wrap x < 18446744073709551616:=by
 have h:IntKind.u64.wrap x=x % 18446744073709551616:=rfl;rw [h];omega
theorem wall_any {w:World} {Own G:Nat→Prop} {bw:Nat} {W:Wd} (h:WAt w Own G bw W) (hI:Inv W) :
  Calls Tryz.prog 17 #[ptr bw] w (fun e w'=>e = .returned (str (allT W))∧Chg [] w w'):=by
 have HN:=zh (wnames_any h);have HG:=zh (fun q n w' (hc:Chg [] w w')=>wget_any (h.kept hc (by simp)) q n);have HNL:=zh (fun q (hq : q∈W.order)=>(show q.length≤10 by
  obtain⟨m,hm⟩:=Option.isSome_iff_exists.1 ((hI.order q).1 hq);obtain⟨h1,h2⟩:=hI.ok.good q m hm;rw [← h2];exact h1.wf.name.2.2))
 have hfew:=h.few;clear h hI
 go_enter Tryz.func17,Tryz.ntmps17
 go_wp2_with fail;refine HN.out.mono ?_;rintro _ w1 ⟨vn,rfl,hvn,hfrom,hc1⟩;have hvn0:=hvn;obtain⟨an,cn,rfl,hcn,hrn⟩:=Row.of_owns (F:=fun _=>True) hvn0 (fun _ _=>trivial);have hln : (W.order.map str).length=W.order.length:=by simp
 have HVN:=zh hrn;have HC1:=zh hc1;clear hvn hvn0 hrn hfrom hc1;go_wp2_with fail
 go_loopw [3,5,7,8,9,10,11,12] (fun s i _ _ _ _ _ _ wr=>∃ (k:Nat) (S:ByteArray),s = .string S∧Hid (S=bs ((W.order.take k).flatMap (modT W)))∧S.size≤k * 1000000∧i = .int .i64 k∧k≤W.order.length∧Chg [] w1 wr) (fun _ i _ _ _ _ _ _ _=>W.order.length - (intOf i).toNat)
 case atStart=>exact⟨0,_,rfl,zh rfl,Nat.zero_le _,rfl,Nat.zero_le _,Chg.refl _ _⟩
 case round=>
  obtain⟨k,S,rfl,HS,hSz,rfl,hk,hc⟩:=hrel;have HC:=zh hc;clear hc;by_cases hlt : k < W.order.length
  ·obtain⟨q,hq⟩ : ∃ q,W.order[k]?=some q:=⟨W.order[k],List.getElem?_eq_getElem hlt⟩
   have HQ:=zh hq;have hql:=HNL.out q (List.mem_of_getElem? hq);obtain⟨bb,off,rfl,hc⟩:=cell_drop (HVN.out.kept HC.out (by simp)) (show k < (W.order.map str).length by simpa using hlt);have hcq : wr.cell? ⟨bb,off + k,none⟩=some (str q):=by
    rw [hc];simp only [List.getElem_map];rw [List.getElem?_eq_getElem hlt,Option.some.injEq] at hq;rw [hq]
   obtain⟨qb,hqb⟩ : ∃ x,x=bs q:=⟨_,rfl⟩
   rw [str,← hqb] at hcq;have hqs : qb.size≤10:=by rw [hqb,bs_size];exact hql
   have HQB:=zh hqb;have hz:=Blk.new wr #[.string ⟨#[120]⟩,.string ⟨#[121]⟩,.string ⟨#[116]⟩,.string ⟨#[117]⟩,.string ⟨#[122]⟩] 9;obtain⟨wA,hwA⟩ : ∃ x,wr.alloc (.cells #[.string ⟨#[120]⟩,.string ⟨#[121]⟩,.string ⟨#[116]⟩,.string ⟨#[117]⟩,.string ⟨#[122]⟩] 9)=x:=⟨_,rfl⟩
   rw [hwA] at hz;have hcA:Chg [] wr wA:=by rw [← hwA];exact(Chg.refl _ _).alloc _
   obtain⟨b27,hb27⟩ : ∃ b,b=wr.heap.size:=⟨_,rfl⟩
   rw [← hb27] at hz;have HZ:=zh hz;have HCA:=zh (HC.out.then hcA);have HCAr:=zh hcA;have HCQ:=zh hcq;clear hqb hq hc hql hz hcA;go_wp2_with fail;rw [← hb27];clear hcq hwA hb27
   go_loopw [3,7,8,9,10,11,12,29] (fun s _ _ _ _ _ _ i wr=>∃ (j:Nat) (T:ByteArray),s = .string T∧Hid (T=bs ((W.order.take k).flatMap (modT W) ++ q ++ (vnames.take j).flatMap (varT W q)))∧T.size≤k * 1000000 + 10 + j * 20000∧i = .int .i64 j∧j≤5∧Chg [] wA wr) (fun _ _ _ _ _ _ _ i _=>5 - (intOf i).toNat)
   case atStart=>exact⟨0,_,rfl,zh (by rw [HS.out,HQB.out,bs_app];simp),by simp;omega,rfl,by omega,Chg.refl _ _⟩
   case round=>
    rename_i wr0
    obtain⟨j,T,rfl,HT,hTz,rfl,hj,hc⟩:=hrel;have HC2:=zh hc;clear hc;by_cases hlt2 : j < 5
    ·obtain⟨v,hv,hvc,hvl⟩ : ∃ v,vnames[j]?=some v∧wr.cell? ⟨b27,j,none⟩=some (.string (bs v))∧v.length=1:=by
      have hz:=HZ.out.kept HC2.out (by simp);have : j=0∨j=1∨j=2∨j=3∨j=4:=by omega
      rcases this with rfl|rfl|rfl|rfl|rfl
      ·exact⟨[120],rfl,hz.cell 0 _ rfl,rfl⟩
      ·exact⟨[121],rfl,hz.cell 1 _ rfl,rfl⟩
      ·exact⟨[116],rfl,hz.cell 2 _ rfl,rfl⟩
      ·exact⟨[117],rfl,hz.cell 3 _ rfl,rfl⟩
      ·exact⟨[122],rfl,hz.cell 4 _ rfl,rfl⟩
     have hcw:=HC1.out.then (HCA.out.then HC2.out)
     have hg:=HG.out q v wr hcw;obtain⟨vb,hvb⟩ : ∃ x,x=bs v:=⟨_,rfl⟩
     rw [str,str,← HQB.out,← hvb] at hg;rw [← hvb] at hvc;have hvs : vb.size=1:=by rw [hvb,bs_size];exact hvl
     have hqc : wr.cell? ⟨bb,off + k,none⟩=some (.string qb):=(HCAr.out.then HC2.out).cellSome HCQ.out (by simp);have HGG:=zh hg;have HV:=zh hv;have HVB:=zh hvb;clear hg hv hvb hcw hvl;obtain⟨o,ho⟩ : ∃ o,o=getW W q v:=⟨_,rfl⟩
     rw [← ho] at HGG;have HO:=zh ho;clear ho;cases o with
     | none=>
      go_wp2_with fail;refine HGG.out.mono ?_;rintro _ w2 ⟨hc2,rfl⟩;have HC3:=zh hc2;clear hc2;go_wp2_with fail;refine⟨⟨j + 1,_,rfl,zh ?_,?_,by go_num,by omega,HC2.out.then HC3.out⟩,by simp [intOf];omega⟩
      ·rw [HT.out,flat_take HV.out,varT,← HO.out]
       exact(bs_app _ [45]).trans (by simp)
      ·have : (T ++ (⟨#[45]⟩ : ByteArray)).size=T.size + 1:=by rw [ByteArray.size_append];rfl
       omega
     | some l=>
      go_wp2_with fail;refine HGG.out.mono ?_;rintro _ w2 ⟨hc2,vl,rfl,hown,hfl,hll⟩;obtain⟨al,cl,rfl,hcl,hrl⟩:=Row.of_owns (F:=fun _=>True) hown (fun _ _=>trivial);have HRL:=zh hrl;have HC3:=zh (HC2.out.then hc2);clear hown hfl hrl hc2 hqc hvc;obtain⟨T1,hT1⟩ : ∃ x,x=T ++ vb:=⟨_,rfl⟩
      obtain⟨z0,hz0⟩ : ∃ z,z=k * 1000000 + 11 + j * 20000:=⟨_,rfl⟩
      have hT1s:T1.size≤z0:=by rw [hT1,ByteArray.size_append];omega
      have hz9 : z0≤20000000:=by omega
      have HZ0:=zh hz0;clear hz0;have HT1:=zh (show T1=bs ((W.order.take k).flatMap (modT W) ++ q ++ (vnames.take j).flatMap (varT W q) ++ v) by rw [hT1,HT.out,HVB.out,bs_app]);go_wp2_with fail;rw [← hT1];clear hT1
      go_loopw [3,10,11,12] (fun s i _ _ wr=>∃ (n:Nat) (U:ByteArray),s = .string U∧Hid (U=bs ((W.order.take k).flatMap (modT W) ++ q ++ (vnames.take j).flatMap (varT W q) ++ v ++ (l.take n).flatMap fun x=>valT 8 (IntKind.u64.wrap x)))∧U.size≤z0 + n * 16∧i = .int .i64 n∧n≤l.length∧Chg [] w2 wr) (fun _ i _ _ _=>l.length - (intOf i).toNat)
      case atStart=>exact⟨0,_,rfl,zh (by rw [HT1.out];simp),by omega,rfl,by omega,Chg.refl _ _⟩
      case round=>
       rename_i wr1
       obtain⟨n,U,rfl,HU,hUz,rfl,hn,hc⟩:=hrel;have HC4:=zh hc;clear hc;by_cases hlt3 : n < l.length
       ·obtain⟨x,hx⟩ : ∃ x,l[n]?=some x:=⟨l[n],List.getElem?_eq_getElem hlt3⟩
        obtain⟨b2,off2,rfl,hc⟩:=cell_drop (HRL.out.kept HC4.out (by simp)) (show n < (l.map num).length by simpa using hlt3);have hcx : wr.cell? ⟨b2,off2 + n,none⟩=some (num x):=by
         rw [hc];simp only [List.getElem_map];rw [List.getElem?_eq_getElem hlt3,Option.some.injEq] at hx;rw [hx]
        have HX:=zh hx;clear hc hx;go_wp2_with fail;clear hcx
        go_loopw [3,11,12] (fun s u i wr=>∃ (c:Nat) (V:ByteArray) (y:Int),s = .string V∧Hid (∃ lV,V=bs lV∧lV ++ valT (8 - c) y=(W.order.take k).flatMap (modT W) ++ q ++ (vnames.take j).flatMap (varT W q) ++ v ++ (l.take (n + 1)).flatMap fun x=>valT 8 (IntKind.u64.wrap x))∧V.size≤z0 + n * 16 + c * 2∧u = .int .u64 y∧0≤y∧y < 18446744073709551616∧i = .int .i64 c∧c≤8∧Chg [] w2 wr) (fun _ _ i _=>8 - (intOf i).toNat)
        case atStart=>
         refine⟨0,U,_,rfl,zh ⟨_,HU.out,?_⟩,by omega,rfl,?_,?_,rfl,by omega,HC4.out⟩
         ·rw [flat_take HX.out]
          simp
         ·exact(wrap_u x).1
         ·exact(wrap_u x).2
        case round=>
         rename_i wr2
         obtain⟨c,V,y,rfl,HVV,hVz,rfl,hy0,hy1,rfl,hcc,hc⟩:=hrel;have HC5:=zh hc;clear hc;by_cases hlt4 : c < 8
         ·have hpc:=pair_conv wr (IntKind.u64.wrap (97 + bits BinOp.and IntKind.u64 y 15) % 256) (IntKind.u64.wrap (97 + bits BinOp.and IntKind.u64 (y / 16) 15) % 256)
          obtain⟨pb,hpb⟩ : ∃ x,x=bs [UInt8.ofNat (IntKind.u64.wrap (97 + bits BinOp.and IntKind.u64 y 15) % 256).toNat,UInt8.ofNat (IntKind.u64.wrap (97 + bits BinOp.and IntKind.u64 (y / 16) 15) % 256).toNat]:=⟨_,rfl⟩
          rw [← hpb] at hpc;have hps : pb.size=2:=by rw [hpb];rfl
          have HPB:=zh (show pb=bs (pairT y) from hpb);clear hpb;go_wp2_with fail;refine⟨⟨c + 1,V ++ pb,y / 256,rfl,zh ?_,?_,rfl,by omega,by omega,by go_num,by omega,HC5.out.alloc _⟩,by simp [intOf];omega⟩
          ·obtain⟨lV,h1,h2⟩:=HVV.out
           refine⟨lV ++ pairT y,by rw [h1,HPB.out,bs_app],?_⟩;rw [← h2];obtain⟨d,hd⟩ : ∃ d,8 - c=d + 1:=⟨7 - c,by omega⟩
           rw [hd,show 8 - (c + 1)=d by omega,valT];simp
          ·rw [ByteArray.size_append];omega
         ·go_wp2_with fail
          refine⟨⟨n + 1,V,rfl,zh ?_,?_,by go_num,by omega,HC5.out⟩,by simp [intOf];omega⟩
          ·obtain⟨lV,h1,h2⟩:=HVV.out
           rw [show 8 - c=0 by omega,valT,List.append_nil] at h2;rw [h1,h2]
          ·omega
       ·go_wp2_with fail
        refine⟨⟨j + 1,U,rfl,zh ?_,?_,by go_num,by omega,HC3.out.then HC4.out⟩,by simp [intOf];omega⟩
        ·have e1 : l.take n=l:=List.take_of_length_le (by omega)
         rw [HU.out,flat_take HV.out,varT,← HO.out,e1];simp [listT]
        ·have:=HZ0.out
         omega
    ·go_wp2_with fail
     refine⟨⟨k + 1,_,rfl,zh ?_,?_,by go_num,by omega,HCA.out.then HC2.out⟩,by simp [intOf];omega⟩
     ·have e1 : vnames.take j=vnames:=List.take_of_length_le (by show 5≤j;omega)
      rw [HT.out,flat_take HQ.out,modT,e1];exact(bs_app _ [59]).trans (by simp)
     ·have : (T ++ (⟨#[59]⟩ : ByteArray)).size=T.size + 1:=by rw [ByteArray.size_append];rfl
      omega
  ·go_wp2_with fail
   have hS:S=bs (allT W):=by rw [HS.out,List.take_of_length_le (by omega),allT]
   rw [hS];go_ret
   exact⟨rfl,HC1.out.then HC.out⟩
end Go.Proofs.YtechofppmnnomaaGreatDoor
namespace Go.Proofs.YtechofppmnnomaaGreatDoor
open Go Go.RowKit Go.Mq Go.Mq.Tree Go.Mq.Sym Go.Mq.Run
set_option maxRecDepth 100000
set_option maxHeartbeats 4000000
theorem ints_cell {w:World} {F:Nat→Prop} {a:Option Addr} {l:List Int} (h:Row w F a (ints l)) {k:Nat} (hk : k < l.length) : ∃ bb off,a=some ⟨bb,off,none⟩∧w.cell? ⟨bb,off + k,none⟩=some (num l[k]):=by
 obtain⟨bb,off,rfl,hc⟩:=h.at_ (by simp;omega);exact⟨bb,off,rfl,hc k _ (by simp [hk])⟩
theorem equal_any (x y:List Int) (hx : x.length≤100000) (hy : y.length≤100000) (a b:Option Addr) (c d:Nat) (F G:Nat→Prop) (w:World) (ha:Row w F a (ints x)) (hb:Row w G b (ints y)) :
  Calls Tryz.prog 18 #[.slice a x.length c,.slice b y.length d] w (fun e w'=>e = .returned (.bool (decide (x=y)))∧Chg [] w w'):=by
 have HA:=zh ha;have HB:=zh hb;clear ha hb;cases hlen : ((x.length:Int) != (y.length:Int)) with
 | true=>
  have hne : x≠y:=fun e=>by subst e;simp at hlen
  go_enter Tryz.func18,Tryz.ntmps18
  go_wp2_with fail;go_ret
  exact⟨by simp [hne],Chg.refl _ _⟩
 | false=>
  have hll : x.length=y.length:=by
   have : (x.length:Int)=y.length:=by simpa using hlen
   omega
  have HLL:=zh hll;clear hll
  go_enter Tryz.func18,Tryz.ntmps18
  go_wp2_with fail
  go_loopw [5,13] (fun _ i wr=>∃ k:Nat,i = .int .i64 k∧k≤x.length∧Chg [] w wr∧x.take k=y.take k) (fun _ i _=>x.length - (intOf i).toNat)
  case atStart=>exact⟨0,rfl,Nat.zero_le _,Chg.refl _ _,by simp⟩
  case round=>
   obtain⟨k,rfl,hk,hc,hno⟩:=hrel;have HNO:=zh hno;have HC:=zh hc;clear hno hc;by_cases hlt : k < x.length
   ·have hlt2 : k < y.length:=by have:=HLL.out;omega
    obtain⟨xk,hxk⟩ : ∃ z,z=x[k]:=⟨_,rfl⟩
    obtain⟨yk,hyk⟩ : ∃ z,z=y[k]:=⟨_,rfl⟩
    have hr:Chg [] w wr.drew:=HC.out.drew;obtain⟨b1,o1,rfl,d1⟩:=ints_cell (HA.out.kept HC.out (by simp)) hlt;obtain⟨b2,o2,rfl,d2⟩:=ints_cell (HB.out.kept HC.out (by simp)) hlt2;rw [← hxk] at d1;rw [← hyk] at d2;have HXK:=zh hxk;have HYK:=zh hyk;have HR:=zh hr;clear hxk hyk hr;have hkl : k < y.length:=hlt2;cases hq : (xk != yk) with
    | true=>
     have hne : x≠y:=fun e=>by
      have h1:=HXK.out;have h2:=HYK.out;subst e;rw [h1,h2] at hq;simp at hq
     go_wp2_with fail
     go_region
     all_goals (try go_wp2_with fail)
     go_ret
     exact⟨by simp [hne],HR.out⟩
    | false=>
     have hee : xk=yk:=by simpa using hq
     have HEE:=zh hee;clear hee;go_wp2_with fail
     go_region
     all_goals (try go_wp2_with fail)
     refine⟨⟨k + 1,by go_num,by omega,HR.out,?_⟩,by simp [intOf];omega⟩;rw [List.take_succ_eq_append_getElem hlt,List.take_succ_eq_append_getElem hlt2,HNO.out,← HXK.out,← HYK.out,HEE.out]
   ·have hkx : k=x.length:=by omega
    have he : x=y:=by
     have h1:=HNO.out;rw [hkx,List.take_length,HLL.out,List.take_length] at h1;exact h1
    go_wp2_with fail;go_ret
    exact⟨by simp [he],HC.out⟩
end Go.Proofs.YtechofppmnnomaaGreatDoor
namespace Go.Proofs.YtechofppmnnomaaGreatDoor
open Go Go.RowKit Go.Mq Go.Mq.Tree Go.Mq.Sym Go.Mq.Run
open Go.Mq.Check (check Out)
set_option maxRecDepth 100000
set_option maxHeartbeats 4000000
def codeO:Out→Int
 | .fine=>0
 | .plain n=>n
 | .at_ en _=>en
theorem tell_out {o:Out} {v:Value} {w:World} (hg:ErrLaid w) (h:ErrV w o v):Calls Tryz.prog 15 #[v] w fun e w'=>e = .returned (.int .i64 (codeO o))∧Chg [] w w':=by
 cases o with
 | fine=>
  simp only [ErrV] at h;subst h;exact(tell_nil w).mono fun e w' ⟨h1,h2⟩=>⟨h1,by rw [h2];exact Chg.refl _ _⟩
 | plain n=>
  simp only [ErrV] at h;subst h;exact tell_errno n w hg
 | at_ en p=>
  obtain⟨b,rfl,hb⟩:=h;exact tell_at en b w hg (hb.cell 0 _ rfl)
end Go.Proofs.YtechofppmnnomaaGreatDoor
namespace Go.Mq.Run
open Go Go.RowKit Go.Mq Go.Mq.Tree Go.Mq.Sym
open Classical
theorem reach_none {M:Ms} {a b:Nm} (h:M a=none) (hab : a≠b) : ¬ Reach M a b:=fun hr=>by
 cases hr with
 | refl=>exact hab rfl
 | step hi _=>
  obtain⟨m,hm,_⟩:=hi;rw [h] at hm;cases hm
theorem reach_some {M:Ms} {a b:Nm} {m:Mod} (h:M a=some m) (hab : a≠b):Reach M a b ↔ ∃ n∈m.imports,Reach M n b:=by
 constructor
 ·intro hr
  cases hr with
  | refl=>exact absurd rfl hab
  | step hi hr2=>
   obtain⟨m',hm',hx⟩:=hi;rw [h] at hm';cases hm'
   exact⟨_,hx,hr2⟩
 ·rintro⟨n,hn,hr⟩
  exact .step ⟨m,h,hn⟩ hr
noncomputable def reachB (M:Ms) (a b:Nm):Bool:=decide (Reach M a b)
theorem reachB_any {M:Ms} {a b:Nm} {m:Mod} (h:M a=some m) (hab : a≠b) : reachB M a b=m.imports.any fun n=>reachB M n b:=by
 rw [Bool.eq_iff_iff];simp only [reachB,decide_eq_true_eq,List.any_eq_true];exact reach_some h hab
theorem reachB_none {M:Ms} {a b:Nm} (h:M a=none) (hab : a≠b) : reachB M a b=false:=decide_eq_false (reach_none h hab)
theorem reachB_self (M:Ms) (a:Nm) : reachB M a a=true:=decide_eq_true (.refl a)
end Go.Mq.Run
namespace Go.Proofs.YtechofppmnnomaaGreatDoor
open Go Go.RowKit Go.Mq Go.Mq.Tree Go.Mq.Sym Go.Mq.Run
open Go.Mq.Plan (MapIs getM putM run_getM run_getMok run_getNok run_putM)
open Go.Mq.Check (At1 find_at find_no)
set_option maxRecDepth 100000
set_option maxHeartbeats 4000000
theorem any_find2 (l:List Nm) (p:Nm→Bool) : (match l.find? p with|none=>l.any p=false|some _=>l.any p=true):=by
 cases h : l.find? p with
 | none=>simpa using h
 | some x=>simp only [List.any_eq_true];exact⟨x,List.mem_of_find?_eq_some h,List.find?_some h⟩
theorem index2 (fid:FuncId) (hF : ∀ (args:Array Value) (w:World),(callFunc fid args).run Tryz.prog w = .ok (.enter fid args) w) (l:List Nm) (hl : l.length≤1000) (p:Nm→Bool) (c1 c2:Value) (F:Nat→Prop) (v:Value) (w:World) (h:NamesAt w F l v)
  (hf : ∀ n∈l,∀ w',Chg [] w w'→Calls Tryz.prog fid #[str n,c1,c2] w' (fun e w''=>e = .returned (.bool (p n))∧Chg [] w' w'')) :
  Calls Tryz.prog 88 #[v,.func (.func fid) #[] #[c1,c2]] w (fun e w'=>At1 l p e∧Chg [] w w'):=by
 obtain⟨a,c,rfl,hac,hrow⟩:=h;have HROW:=zh hrow;have HF:=zh hf;clear hrow hf
 go_enter Tryz.func88,Tryz.ntmps88
 go_wp2_with fail
 go_loopw [5,8] (fun _ i wr=>∃ k:Nat,i = .int .i64 k∧k≤l.length∧Chg [] w wr ∧ ∀ (i:Nat) (x:Nm),i < k→l[i]?=some x→p x=false) (fun _ i _=>l.length - (intOf i).toNat)
 case atStart=>exact⟨0,rfl,Nat.zero_le _,Chg.refl _ _,fun i x hi=>by omega⟩
 case round=>
  obtain⟨k,rfl,hk,hc,hno⟩:=hrel;have HNO:=zh hno;have HC:=zh hc;clear hno hc;by_cases hlt : k < l.length
  ·obtain⟨s,hs⟩ : ∃ s,l[k]?=some s:=⟨l[k],List.getElem?_eq_getElem hlt⟩
   obtain⟨bb,off,rfl,d0⟩:=names_cell (HROW.out.kept HC.out (by simp)) hs;have HS:=zh hs;have HI:=zh (HF.out s (List.mem_of_getElem? hs) wr HC.out);clear hs;cases hq : p s with
   | true=>
    rw [hq] at HI;have HR:=zh (show l.find? p=some s from find_at HS.out hq HNO.out);clear hq;go_wp2_with fail;refine HI.out.mono ?_;rintro _ w2 ⟨rfl,hq⟩;have HQ:=zh (HC.out.then hq);clear hq;go_wp2_with fail;go_ret
    refine⟨?_,HQ.out⟩;rw [At1,HR.out];exact⟨k,HS.out,rfl⟩
   | false=>
    rw [hq] at HI;have HN:=zh hq;clear hq;go_wp2_with fail;refine HI.out.mono ?_;rintro _ w2 ⟨rfl,hq⟩;have HQ:=zh (HC.out.then hq);clear hq;go_wp2_with fail;refine⟨⟨k + 1,by go_num,by omega,HQ.out,fun i x hi hx=>?_⟩,by simp [intOf];omega⟩;by_cases he : i < k
    ·exact HNO.out i x he hx
    ·have : i=k:=by omega
     subst this;rw [HS.out] at hx;cases hx
     exact HN.out
  ·have HR:=zh (show l.find? p=none from find_no fun i x hx=>HNO.out i x (by have:=(List.getElem?_eq_some_iff.1 hx).1;omega) hx)
   go_wp2_with fail;go_ret
   exact⟨by rw [At1,HR.out] <;> rfl,HC.out⟩
theorem contains2 (fid:FuncId) (hF : ∀ (args:Array Value) (w:World),(callFunc fid args).run Tryz.prog w = .ok (.enter fid args) w) (l:List Nm) (hl : l.length≤1000) (p:Nm→Bool) (c1 c2:Value) (F:Nat→Prop) (v:Value) (w:World) (h:NamesAt w F l v)
  (hf : ∀ n∈l,∀ w',Chg [] w w'→Calls Tryz.prog fid #[str n,c1,c2] w' (fun e w''=>e = .returned (.bool (p n))∧Chg [] w' w'')) :
  Calls Tryz.prog 49 #[v,.func (.func fid) #[] #[c1,c2]] w (fun e w'=>e = .returned (.bool (l.any p))∧Chg [] w w'):=by
 have HI:=zh (index2 fid hF l hl p c1 c2 F v w h hf);clear h hf
 go_enter Tryz.func49,Tryz.ntmps49
 go_wp2_with fail;refine HI.out.mono ?_;rintro e w1 ⟨hat,hc⟩;have HC:=zh hc;have hfd:=any_find2 l p;clear hc;rw [At1] at hat;cases hx : l.find? p with
 | none=>
  rw [hx] at hat hfd;simp only at hat;subst hat;have HAF:=zh (show l.any p=false from hfd);clear hfd hx;go_wp2_with fail;go_ret
  exact⟨by rw [HAF.out] <;> rfl,HC.out⟩
 | some x=>
  rw [hx] at hat hfd;obtain⟨k,hk,rfl⟩:=hat;have HAF:=zh (show l.any p=true from hfd);have hkz : decide ((0:Int)≤(k:Int))=true:=by simp
  clear hfd hx hk;go_wp2_with fail;go_ret
  exact⟨by rw [HAF.out] <;> simp,HC.out⟩
theorem front_get {w:World} {Own G:Nat→Prop} {bw:Nat} {W:Wd} {pv:Option Nat} {oa:Option Addr} {oc:Nat} (h:Front w Own G bw W pv oa oc) (q:Nm) : ∃ o,(∀ w',Chg [] w w'→(Instr.lookup 38 (.map pv) (str q) false).run Tryz.prog w' = .ok (.pointer o) w') ∧
  match W.M q with
  | none=>o=none
  | some m=>∃ bp L pes,pv=some bp∧Has w Own G bw W L∧OrdAt w Own G bw W L bp (.slice oa W.order.length oc) pes∧o=some ⟨L.pb q,0,none⟩∧PartAt w L.Fix m (L.dim q) (L.pb q):=by
 rcases h.at_ with⟨rfl,rfl,_⟩|⟨bp,L,pes,rfl,hh,ho⟩
 ·refine⟨none,fun w' hc=>?_,rfl⟩
  have:=run_getNok (P:=Tryz.prog) Tryz.underlying38 Tryz.underlying9 (zero_part w') q false
  simpa using this
 ·have:=ho.2.2.2.2.2.2 q
  cases hq:W.M q with
  | none=>
   refine⟨none,fun w' hc=>?_,rfl⟩;have hl:=run_getM (P:=Tryz.prog) Tryz.underlying38 Tryz.underlying9 (zero_part w') (ho.2.2.1.kept hc (by simp)) q;rw [hq] at this;simp only at this;rw [this] at hl;exact hl
  | some m=>
   rw [hq] at this;obtain⟨a1,a2,bv,_,a5⟩:=this;refine⟨some ⟨L.pb q,0,none⟩,fun w' hc=>?_,bp,L,pes,rfl,hh,ho,rfl,a5.mono (fun x hx=>hx.1)⟩;have hl:=run_getM (P:=Tryz.prog) Tryz.underlying38 Tryz.underlying9 (zero_part w') (ho.2.2.1.kept hc (by simp)) q;rw [a1] at hl;exact hl
theorem reaches_any {w0:World} {Own G:Nat→Prop} {bw:Nat} {W:Wd} (h0:WAt w0 Own G bw W) (b:Nm) (a:Nm) (hacc:Acc (Imp W.M) a) : ∀ w,Chg [] w0 w →
  Calls Tryz.prog 51 #[ptr bw,str a,str b] w (fun e w'=>e = .returned (.bool (reachB W.M a b))∧Chg [] w w'):=by
 induction hacc with
 | intro a _ ih=>
  intro w hcw;have h:=h0.kept hcw (by simp);have hmf : ∀ (fn:Fn) (first cap:Array Value) (w:World),(Instr.makeFunc fn first cap).run Tryz.prog w = .ok (.func fn first cap) w:=fun _ _ _ _=>rfl
  obtain⟨wA,hwA⟩ : ∃ x,w.alloc (.cells #[ptr bw] 50)=x:=⟨_,rfl⟩
  have hbA:Blk wA w.heap.size #[ptr bw] 50:=by rw [← hwA];exact Blk.new w _ _
  have hcA:Chg [] w wA:=by rw [← hwA];exact(Chg.refl _ _).alloc _
  obtain⟨wB,hwB⟩ : ∃ x,wA.alloc (.cells #[str b] 9)=x:=⟨_,rfl⟩
  have hbB:Blk wB wA.heap.size #[str b] 9:=by rw [← hwB];exact Blk.new wA _ _
  have hcB:Chg [] wA wB:=by rw [← hwB];exact(Chg.refl _ _).alloc _
  have hcW:Chg [] w wB:=hcA.then hcB
  have y0:=hbB.cell 0 _ rfl;have x0:=(hbA.kept hcB (by simp)).cell 0 _ rfl;cases hab : (a == b) with
  | true=>
   have e : a=b:=by simpa using hab
   subst e;have HC:=zh hcW;clear h hbA hcA hbB hcB hcW ih
   go_enter Tryz.func51,Tryz.ntmps51
   go_wp2_with fail;go_ret
   exact⟨by rw [reachB_self] <;> rfl,HC.out⟩
  | false=>
   have hne : a≠b:=by simpa using hab
   obtain⟨pv,oa,oc,hfr⟩:=h.front;obtain⟨o,hlk,hat⟩:=front_get hfr a;have hl:=hlk wB hcW;have b0:=(hfr.blk.kept hcW (by simp)).cell 0 _ rfl;cases hq:W.M a with
   | none=>
    rw [hq] at hat;simp only at hat;subst hat;have HR:=zh (reachB_none hq hne);have HC:=zh hcW;clear h hfr hlk hq hbA hcA hbB hcB hcW ih hne
    go_enter Tryz.func51,Tryz.ntmps51
    go_wp2_with fail;go_ret
    exact⟨by rw [HR.out] <;> rfl,HC.out⟩
   | some m=>
    rw [hq] at hat;obtain⟨bp,L,pes,rfl,hhas,hord,rfl,hpart⟩:=hat;obtain⟨_,hfew,ai,ci,av,cv,ap,cp,ab,cb,bv',es,hp3,hmod,_,_,_⟩:=hpart.kept hcW (by simp);obtain⟨vi,vv,vp,vb,hve,hni,_,_,_⟩:=hmod;cases hve
    have p1:=hp3.cell 1 _ rfl;have HR:=zh (reachB_any hq hne);have HC:=zh hcW;have hbA':=hbA.kept hcB (by simp);have HCF:=zh (contains2 89 (fun _ _=>rfl) m.imports hfew.imports (fun n=>reachB W.M n b) (ptr w.heap.size) (ptr wA.heap.size) _ _ wB hni (fun n hn w' hc=>by
     have z0:=(hbA'.kept hc (by simp)).cell 0 _ rfl;have z1:=(hbB.kept hc (by simp)).cell 0 _ rfl;have HI:=zh (ih n ⟨m,hq,hn⟩ w' (hcw.then (hcW.then hc)));clear ih
     go_enter Tryz.func89,Tryz.ntmps89
     go_wp2_with fail;refine HI.out.mono ?_;rintro _ w2 ⟨rfl,hc2⟩;go_wp2_with fail;go_ret
     exact⟨rfl,hc2⟩))
    have hnn : ∀ w,(binOp BinOp.neq 94 (ptr (L.pb a)) nilp).run Tryz.prog w = .ok (.bool true) w:=fun _=>rfl
    clear h hfr hlk hq hbA hcA hbB hcB hcW ih hne hpart hp3 hni hfew hhas hord hbA'
    go_enter Tryz.func51,Tryz.ntmps51
    go_wp2_with fail;refine HCF.out.mono ?_;rintro _ w2 ⟨rfl,hc2⟩;have HC2:=zh (HC.out.then hc2);clear hc2;go_wp2_with fail;go_ret
    exact⟨by rw [HR.out] <;> rfl,HC2.out⟩
end Go.Proofs.YtechofppmnnomaaGreatDoor
namespace Go.Mq.Run
open Go Go.RowKit Go.Mq Go.Mq.Tree Go.Mq.Sym
open Go.Mq.Check (FewM FewS FewE argsN)
open Go.Mq.Plan (MapIs getM putM getM_put)
open Go.Proofs.YtechofppmnnomaaGreatDoor (VarsAt)
structure VarsV (w:World) (lo b:Nat) (f:Nm→Option (List Int)) (dim:Nm→Option (Nat × Nat)) (arrs:List Nat):Prop where
 map : ∃ es,MapIs w b es ∧ ∀ n,getM es n=(dim n).map fun x=>.slice (some ⟨x.1,0,none⟩) x.2 x.2
 inj : ∀ {n k n' k' a},dim n=some (a,k)→dim n'=some (a,k')→n=n'
 arr : ∀ {n a k},dim n=some (a,k)→a∈arrs∧1≤k∧k≤1000
 low : ∀ {a},a∈arrs→lo≤a∧a < w.heap.size ∧ ∃ cs,Blk w a cs i64T
 is : ∀ n,match dim n with
  | some x=>∃ l,f n=some l∧l.length=x.2∧Blk w x.1 (ints l).toArray i64T
  | none=>f n=none
theorem VarsV.of {w:World} {lo b:Nat} {l:List Glob} {dim:Nm→Option (Nat × Nat)} {arrs:List Nat} (h:VarsAt w lo b l dim arrs):VarsV w lo b (startF l) dim arrs:=
 ⟨h.map,h.inj,h.arr,fun ha=>by obtain⟨h1,h2,k,h3⟩:=h.low ha;exact⟨h1,h2,_,h3⟩,fun n=>by
  have:=h.is n;cases hd : dim n with
  | none=>rw [hd] at this;exact this
  | some x=>rw [hd] at this;exact⟨_,this.1,by simp [zeros],this.2⟩⟩
theorem VarsV.kept {w w':World} {lo b:Nat} {f:Nm→Option (List Int)} {dim:Nm→Option (Nat × Nat)} {arrs:List Nat} {Z:List Nat} (h:VarsV w lo b f dim arrs) (hc:Chg Z w w') (hZ : ∀ x∈Z,x≠b∧x∉arrs):VarsV w' lo b f dim arrs:=by
 obtain⟨es,h1,h2⟩:=h.map;refine⟨⟨es,h1.kept hc (fun hm=>(hZ b hm).1 rfl),h2⟩,h.inj,h.arr,fun ha=>?_,fun n=>?_⟩
 ·obtain⟨h3,h4,k,h5⟩:=h.low ha
  exact⟨h3,by have:=hc.size;omega,k,h5.kept hc (fun hm=>(hZ _ hm).2 ha)⟩
 ·have:=h.is n
  cases hd : dim n with
  | none=>rw [hd] at this;exact this
  | some x=>
   rw [hd] at this;obtain⟨l,h3,h4,h5⟩:=this;exact⟨l,h3,h4,h5.kept hc (fun hm=>(hZ _ hm).2 (h.arr (show dim n=some (x.1,x.2) from hd)).1)⟩
theorem VarsV.put {w w':World} {lo b:Nat} {f:Nm→Option (List Int)} {dim:Nm→Option (Nat × Nat)} {arrs:List Nat} (h:VarsV w lo b f dim arrs) {n:Nm} {a k:Nat} (hd : dim n=some (a,k)) (hc:Chg [a] w w') {l:List Int} (hl : l.length=k) (hb:Blk w' a (ints l).toArray i64T):VarsV w' lo b (fun n'=>if n'=n then some l else f n') dim arrs:=by
 obtain⟨es,h1,h2⟩:=h.map;have hab : a≠b:=fun e=>by
  obtain⟨_,_,cs,h3⟩:=h.low (h.arr hd).1;obtain⟨arr,clock,h4,_⟩:=h1
  unfold Blk at h3
  rw [e,h4] at h3;cases h3
 refine⟨⟨es,h1.kept hc (fun hm=>by simp at hm;exact hab hm.symm),h2⟩,h.inj,h.arr,fun {x} hx=>?_,fun n'=>?_⟩
 ·obtain⟨h3,h4,cs,h5⟩:=h.low hx
  refine⟨h3,by have:=hc.size;omega,?_⟩;by_cases hxa : x=a
  ·subst hxa;exact⟨_,hb⟩
  ·exact⟨cs,h5.kept hc (by simpa using hxa)⟩
 ·by_cases hn : n'=n
  ·subst hn
   rw [hd];exact⟨l,if_pos rfl,hl,hb⟩
  ·have:=h.is n'
   cases hd' : dim n' with
   | none=>rw [hd'] at this;simpa [hn] using this
   | some x=>
    rw [hd'] at this;obtain⟨l',h3,h4,h5⟩:=this;refine⟨l',by simpa [hn] using h3,h4,h5.kept hc (fun hm=>?_)⟩;simp at hm
    exact hn (h.inj (show dim n'=some (a,x.2) by rw [hd',← hm]) hd)
def Lay.swap (L:Lay) (m:Mod) (Gm:Nat→Prop) (bv:Nat) (dim:Nm→Option (Nat × Nat)) (arrs:List Nat):Lay:=
 ⟨fun x=>L.Fix x∨Gm x∨x=bv,setM L.M m,fun q=>if q=m.name then dim else L.dim q,L.pb,L.bw,L.br,L.arrs ++ arrs⟩
theorem Has.swap {w wS:World} {Own Own' G Gm:Nat→Prop} {bw:Nat} {W:Wd} {L:Lay} {m old:Mod} {lo bv bp:Nat} {ov:Value} {pes:List (Nm × Value)} {dim:Nm→Option (Nat × Nat)} {arrs:List Nat} {ai av ap ab:Option Addr} {ci cv cp cb:Nat}
  (h:Has w Own G bw W L) (hdis : ∀ x,Own x→¬ G x∧¬ Gm x) (hlow : ∀ x,Own x∨G x∨Gm x→x < lo) (hlo : lo≤w.heap.size) (hold:W.M m.name=some old) (hfew:FewM m)
  (hor:OrdAt w Own G bw W L bp ov pes)
  (hc:Chg [L.pb m.name] w wS)
  (hpart:Blk wS (L.pb m.name) #[str m.name,.slice ai m.imports.length ci,.slice av m.vars.length cv,.slice ap m.procs.length cp,.slice ab m.body.len cb,.map (some bv)] 102)
  (hmod:ModAt wS Gm m (.agg #[str m.name,.slice ai m.imports.length ci,.slice av m.vars.length cv,.slice ap m.procs.length cp,.slice ab m.body.len cb]))
  (hva:VarsV wS lo bv (swapV W.vs old m m.name) dim arrs) (hlb : lo≤bv)
  (hO : ∀ x,Own x→Own' x) (hO2 : ∀ x,lo≤x→x < wS.heap.size→Own' x) :
  Has wS Own' (fun x=>G x∨Gm x) bw ⟨setM W.M m,swapV W.vs old m,W.order⟩ (L.swap m Gm bv dim arrs):=by
 obtain⟨h1,h2,h3,h4,h5,h6,h7⟩:=hor;have hq0:=h7 m.name;rw [hold] at hq0;obtain⟨_,hpo,bvo,⟨_,hbvo,_⟩,hparto⟩:=hq0;have hpF:L.Fix (L.pb m.name):=hparto.own.1;have hpB : ∃ cs,Blk w (L.pb m.name) cs 102:=by
  obtain⟨_,_,ai,ci,av,cv,ap,cp,ab,cb,bv,es,h3,_⟩:=hparto;exact⟨_,h3⟩
 obtain⟨pcs,hpB⟩:=hpB;have hfixlt : ∀ x,L.Fix x→x < lo:=fun x hx=>by
  rcases h.fix x hx with h1|h1
  ·exact hlow x (.inl h1)
  ·exact hlow x (.inr (.inl h1))
 have hlay:=h.home.lay w.heap.size (Nat.le_refl _);have hal : ∀ x∈L.arrs,¬ L.Fix x∧x < lo∧Own x:=fun x hx=>⟨(hlay.arrs hx).1,hlow x (.inl (h.arrs x hx)),h.arrs x hx⟩
 have hs:=hc.size;have hbvS : bv < wS.heap.size:=by obtain⟨es,hm,_⟩:=hva.map;exact hm.lt
 have hvarr : bv∉arrs:=fun hm=>by
  obtain⟨_,_,cs,hk⟩:=hva.low hm;obtain⟨es,⟨arr,clock,hmm,_⟩,_⟩:=hva.map
  unfold Blk at hk
  rw [hk] at hmm;cases hmm
 have hmapne : ∀ {b:Nat} {es:List (Nm × Value)},MapIs w b es→b≠L.pb m.name:=fun {b es} hm e=>by
  obtain⟨arr,clock,hmm,_⟩:=hm
  unfold Blk at hpB
  rw [← e,hmm] at hpB;cases hpB
 have hMis : ∀ q,(L.swap m Gm bv dim arrs).M q=setM W.M m q:=fun q=>by rw [← h.M];rfl
 have hbwne : bw≠L.pb m.name:=fun e=>by
  unfold Blk at hpB h1
  rw [← e,h1] at hpB;simp at hpB
 have hovne:L.pb m.name∉blk ov:=fun hm=>by
  rcases h2.2 with⟨rfl,_⟩|⟨g,cap,cur,rfl,_,hg,_⟩
  ·cases hm
  ·simp [blk] at hm;unfold Blk at hpB;rw [hm,hg] at hpB;simp at hpB
 have h1S:=h1.kept hc (by simpa using hbwne);have h2S:=owns_kept h2 hc (fun g hg hm=>by simp at hm;subst hm;exact hovne hg);have h3S:=h3.kept hc (by simpa using hmapne h3);have hLbw:L.Fix bw:=by rw [← h.bw_];exact h.home.stat.own
 have hdimn : ∀ q n x,(L.swap m Gm bv dim arrs).dim q n=some x→(q=m.name∧dim n=some x)∨(q≠m.name∧L.dim q n=some x):=fun q n x hx=>by
  by_cases hqm : q=m.name
  ·exact .inl ⟨hqm,by simpa [Lay.swap,hqm] using hx⟩
  ·exact .inr ⟨hqm,by simpa [Lay.swap,hqm] using hx⟩
 have hsame : ∀ q,q≠m.name→(setM W.M m q=W.M q∧(L.swap m Gm bv dim arrs).dim q=L.dim q):=fun q hq=>⟨by simp [setM,hq],by simp [Lay.swap,hq]⟩
 have hown : setM W.M m m.name=some m∧(L.swap m Gm bv dim arrs).dim m.name=dim:=⟨by simp [setM],by simp [Lay.swap]⟩;have hget : ∀ q,(W.M q).isSome=(setM W.M m q).isSome:=fun q=>by
  by_cases hq : q=m.name
  ·subst hq;rw [hown.1,hold];rfl
  ·rw [(hsame q hq).1]
 have hpn:PartAt wS (fun x=>Gm x∨x=L.pb m.name∨x=bv) m dim (L.pb m.name):=by
  obtain⟨es,hm,hes⟩:=hva.map;exact⟨.inr (.inl rfl),hfew,ai,ci,av,cv,ap,cp,ab,cb,bv,es,hpart,hmod.mono (fun x hx=>.inl hx),.inr (.inr rfl),hm,hes⟩
 have hparts : ∀ q,match setM W.M m q with
   | none=>getM pes q=none
   | some mq=>getM pes q=some (ptr (L.pb q))∧Own' (L.pb q) ∧ ∃ bv',(Own' bv'∧(L.swap m Gm bv dim arrs).Fix bv'∧bv'≠bp ∧ ∃ es,MapIs wS bv' es)∧PartAt wS (fun x=>(L.swap m Gm bv dim arrs).Fix x∧((G x∨Gm x)∨x=L.pb q∨x=bv')) mq ((L.swap m Gm bv dim arrs).dim q) (L.pb q):=fun q=>by
  by_cases hqm : q=m.name
  ·subst hqm
   rw [hown.1,hown.2];have:=h7 m.name;rw [hold] at this;have hbpl:=hlow bp (.inl h6);refine⟨this.1,hO _ hpo,bv,⟨hO2 bv hlb hbvS,.inr (.inr rfl),by omega,by obtain⟨es,hm,_⟩:=hva.map;exact⟨es,hm⟩⟩,hpn.mono (fun x hx=>?_)⟩;rcases hx with hx|rfl|rfl
   ·exact⟨.inr (.inl hx),.inl (.inr hx)⟩
   ·exact⟨.inl hpF,.inr (.inl rfl)⟩
   ·exact⟨.inr (.inr rfl),.inr (.inr rfl)⟩
  ·rw [(hsame q hqm).1,(hsame q hqm).2]
   have:=h7 q;cases hq:W.M q with
   | none=>rw [hq] at this;exact this
   | some mq=>
    rw [hq] at this;obtain⟨a1,a2,bv',⟨a3,a4,a6,es,a7⟩,a5⟩:=this;have hv':=hmapne a7;refine⟨a1,hO _ a2,bv',⟨hO _ a3,.inl a4,a6,es,a7.kept hc (by simpa using hv')⟩,(a5.kept hc (fun x hx hf=>?_)).mono (fun x hx=>⟨.inl hx.1,by
     rcases hx.2 with h|h
     ·exact .inl (.inl h)
     ·exact .inr h⟩)⟩
    simp at hx
    subst hx;rcases hf.2 with hf|hf|hf
    ·exact(hdis _ hpo).1 hf
    ·exact hqm (h.inj q m.name (by rw [hq];rfl) (by rw [hold];rfl) hf.symm)
    ·exact hv' hf.symm
 have hlayS : ∀ br,wS.heap.size≤br→LayOk { L.swap m Gm bv dim arrs with br:=br }:=fun br hbr=>by
  have hl:=h.home.lay br (by omega);refine⟨fun {q n a k q' n' k'} h1 h2=>?_,fun {q n a k} h1=>?_,fun {a} ha=>?_,fun {x} hx=>?_,fun {q n a k} h1=>?_⟩
  ·rcases hdimn q n _ h1 with⟨e1,d1⟩|⟨e1,d1⟩ <;> rcases hdimn q' n' _ h2 with⟨e2,d2⟩|⟨e2,d2⟩
   ·exact⟨by rw [e1,e2],hva.inj d1 d2⟩
   ·have:=(hal a (hlay.arr d2).1).2.1;have:=(hva.low (hva.arr d1).1).1;omega
   ·have:=(hal a (hlay.arr d1).1).2.1;have:=(hva.low (hva.arr d2).1).1;omega
   ·exact hlay.inj d1 d2
  ·rcases hdimn q n _ h1 with⟨_,d1⟩|⟨_,d1⟩
   ·obtain⟨h3,h4⟩:=hva.arr d1;exact⟨List.mem_append_right _ h3,h4⟩
   ·obtain⟨h3,h4⟩:=hlay.arr d1;exact⟨List.mem_append_left _ h3,h4⟩
  ·rcases List.mem_append.1 ha with ha|ha
   ·obtain⟨h3,h4,h5'⟩:=hal a ha
    refine⟨fun hf=>?_,by show a < br;omega⟩;rcases hf with hf|hf|hf
    ·exact h3 hf
    ·exact(hdis a h5').2 hf
    ·subst hf;omega
   ·obtain⟨h3,h4,_⟩:=hva.low ha
    refine⟨fun hf=>?_,by show a < br;omega⟩;rcases hf with hf|hf|hf
    ·have:=hfixlt a hf;omega
    ·have:=hlow a (.inr (.inr hf));omega
    ·exact hvarr (hf ▸ ha)
  ·show x < br
   rcases hx with hf|hf|hf
   ·have:=hfixlt x hf;omega
   ·have:=hlow x (.inr (.inr hf));omega
   ·subst hf;omega
  ·show (setM L.M m q).isSome
   rcases hdimn q n _ h1 with⟨e1,_⟩|⟨e1,d1⟩
   ·simp [setM,e1]
   ·have:=hlay.there d1
    simpa [setM,e1] using this
 have hdynS:Dyn wS (L.swap m Gm bv dim arrs).dim (swapV W.vs old m):=fun q n=>by
  by_cases hqm : q=m.name
  ·subst hqm
   rw [hown.2];have:=hva.is n;cases hd : dim n with
   | none=>rw [hd] at this;exact this
   | some x=>rw [hd] at this;exact this
  ·rw [(hsame q hqm).2]
   have e4 : swapV W.vs old m q n=W.vs q n:=by simp [swapV,hqm]
   rw [e4];exact(h.home.dyn.kept hc (fun q n b k hd hm=>by simp at hm;subst hm;exact(hlay.arrs (hlay.arr hd).1).1 hpF)) q n
 refine⟨h.bw_,by funext q;exact hMis q,fun x hx=>?_,fun x hx=>?_,⟨hlayS,⟨.inl (by show L.Fix L.bw;rw [h.bw_];exact hLbw),bp,_,ov,by show Blk wS L.bw _ _;rw [h.bw_];exact h1S,.inl h5,h3S,fun q=>?_⟩,hdynS,fun {a} ha=>?_⟩,⟨bp,ov,_,h1S,h2S,h3S,fun g hg=>⟨.inl (h4 g hg).1,hO g (h4 g hg).2⟩,.inl h5,hO _ h6,hparts⟩,fun q q' h1 h2 he=>h.inj q q' (by rw [hget q];exact h1) (by rw [hget q'];exact h2) he⟩
 ·rcases hx with hf|hf|hf
  ·rcases h.fix x hf with h1|h1
   ·exact .inl (hO x h1)
   ·exact .inr (.inl h1)
  ·exact .inr (.inr hf)
  ·subst hf;exact .inl (hO2 _ hlb hbvS)
 ·rcases List.mem_append.1 hx with hx|hx
  ·exact hO x (h.arrs x hx)
  ·obtain⟨h3,h4,_⟩:=hva.low hx
   exact hO2 x h3 h4
 ·have:=hparts q
  rw [← hMis q] at this;cases hq : (L.swap m Gm bv dim arrs).M q with
  | none=>rw [hq] at this;exact this
  | some mq=>
   rw [hq] at this;obtain⟨a1,_,bv',_,a5⟩:=this;exact⟨a1,a5.mono (fun x hx=>hx.1)⟩
 ·rcases List.mem_append.1 ha with ha|ha
  ·obtain⟨cs,f,hh⟩:=h.home.arrc ha
   exact⟨cs,f,by rw [hc.block _ (Array.getElem?_eq_some_iff.1 hh).1 (fun hm=>by simp at hm;subst hm;exact(hal _ ha).1 hpF)];exact hh⟩
  ·obtain⟨_,_,cs,hk⟩:=hva.low ha
   exact⟨_,_,hk⟩
end Go.Mq.Run
namespace Go.Proofs.YtechofppmnnomaaGreatDoor
open Go Go.RowKit Go.Mq Go.Mq.Tree Go.Mq.Sym Go.Mq.Run
open Go.Mq.Check (At1 find_at find_no)
set_option maxRecDepth 100000
set_option maxHeartbeats 4000000
theorem any_findA {α:Type} (l:List α) (p : α→Bool) : (match l.find? p with|none=>l.any p=false|some _=>l.any p=true):=by
 cases h : l.find? p with
 | none=>simpa using h
 | some x=>simp only [List.any_eq_true];exact⟨x,List.mem_of_find?_eq_some h,List.find?_some h⟩
theorem index_glob1 (fid:FuncId) (hF : ∀ (args:Array Value) (w:World),(callFunc fid args).run Tryz.prog w = .ok (.enter fid args) w) (l:List Glob) (hl : l.length≤1000) (p:Glob→Bool) (c1:Value) (F:Nat→Prop) (v:Value) (w:World) (h:GlobsAt w F l v)
  (hf : ∀ x∈l,∀ w',Chg [] w w'→Calls Tryz.prog fid #[.agg #[str x.name,num x.pos,num x.len,.bool x.seen],c1] w' (fun e w''=>e = .returned (.bool (p x))∧Chg [] w' w'')) :
  Calls Tryz.prog 56 #[v,.func (.func fid) #[] #[c1]] w (fun e w'=>At1 l p e∧Chg [] w w'):=by
 obtain⟨a,c,rfl,hac,hrow⟩:=h;have HROW:=zh hrow;have HF:=zh hf;clear hrow hf
 go_enter Tryz.func56,Tryz.ntmps56
 go_wp2_with fail
 go_loopw [5,8] (fun _ i wr=>∃ k:Nat,i = .int .i64 k∧k≤l.length∧Chg [] w wr ∧ ∀ (i:Nat) (x:Glob),i < k→l[i]?=some x→p x=false) (fun _ i _=>l.length - (intOf i).toNat)
 case atStart=>exact⟨0,rfl,Nat.zero_le _,Chg.refl _ _,fun i x hi=>by omega⟩
 case round=>
  obtain⟨k,rfl,hk,hc,hno⟩:=hrel;have HNO:=zh hno;have HC:=zh hc;clear hno hc;by_cases hlt : k < l.length
  ·obtain⟨s,hs⟩ : ∃ s,l[k]?=some s:=⟨l[k],List.getElem?_eq_getElem hlt⟩
   obtain⟨bb,off,rfl,d0,d1,d2,d3⟩:=Check.glob_cells (HROW.out.kept HC.out (by simp)) hs;have HS:=zh hs;have HI:=zh (HF.out s (List.mem_of_getElem? hs) wr HC.out);clear hs;cases hq : p s with
   | true=>
    rw [hq] at HI;have HR:=zh (show l.find? p=some s from find_at HS.out hq HNO.out);clear hq;go_wp2_with fail;refine HI.out.mono ?_;rintro _ w2 ⟨rfl,hq⟩;have HQ:=zh (HC.out.then hq);clear hq;go_wp2_with fail;go_ret
    refine⟨?_,HQ.out⟩;rw [At1,HR.out];exact⟨k,HS.out,rfl⟩
   | false=>
    rw [hq] at HI;have HN:=zh hq;clear hq;go_wp2_with fail;refine HI.out.mono ?_;rintro _ w2 ⟨rfl,hq⟩;have HQ:=zh (HC.out.then hq);clear hq;go_wp2_with fail;refine⟨⟨k + 1,by go_num,by omega,HQ.out,fun i x hi hx=>?_⟩,by simp [intOf];omega⟩;by_cases he : i < k
    ·exact HNO.out i x he hx
    ·have : i=k:=by omega
     subst this;rw [HS.out] at hx;cases hx
     exact HN.out
  ·have HR:=zh (show l.find? p=none from find_no fun i x hx=>HNO.out i x (by have:=(List.getElem?_eq_some_iff.1 hx).1;omega) hx)
   go_wp2_with fail;go_ret
   exact⟨by rw [At1,HR.out] <;> rfl,HC.out⟩
theorem contains_glob1 (fid:FuncId) (hF : ∀ (args:Array Value) (w:World),(callFunc fid args).run Tryz.prog w = .ok (.enter fid args) w) (l:List Glob) (hl : l.length≤1000) (p:Glob→Bool) (c1:Value) (F:Nat→Prop) (v:Value) (w:World) (h:GlobsAt w F l v)
  (hf : ∀ x∈l,∀ w',Chg [] w w'→Calls Tryz.prog fid #[.agg #[str x.name,num x.pos,num x.len,.bool x.seen],c1] w' (fun e w''=>e = .returned (.bool (p x))∧Chg [] w' w'')) :
  Calls Tryz.prog 25 #[v,.func (.func fid) #[] #[c1]] w (fun e w'=>e = .returned (.bool (l.any p))∧Chg [] w w'):=by
 have HI:=zh (index_glob1 fid hF l hl p c1 F v w h hf);clear h hf
 go_enter Tryz.func25,Tryz.ntmps25
 go_wp2_with fail;refine HI.out.mono ?_;rintro e w1 ⟨hat,hc⟩;have HC:=zh hc;have hfd:=any_findA l p;clear hc;rw [At1] at hat;cases hx : l.find? p with
 | none=>
  rw [hx] at hat hfd;simp only at hat;subst hat;have HAF:=zh (show l.any p=false from hfd);clear hfd hx;go_wp2_with fail;go_ret
  exact⟨by rw [HAF.out] <;> rfl,HC.out⟩
 | some x=>
  rw [hx] at hat hfd;obtain⟨k,hk,rfl⟩:=hat;have HAF:=zh (show l.any p=true from hfd);have hkz : decide ((0:Int)≤(k:Int))=true:=by simp
  clear hfd hx hk;go_wp2_with fail;go_ret
  exact⟨by rw [HAF.out] <;> simp,HC.out⟩
theorem swap2_any (g x:Glob) (b15:Nat) (w:World) (hb:Blk w b15 #[str g.name,num g.pos,num g.len,.bool g.seen] 68) :
  Calls Tryz.prog 55 #[.agg #[str x.name,num x.pos,num x.len,.bool x.seen],ptr b15] w (fun e w'=>e = .returned (.bool (x.name == g.name && x.len == g.len))∧Chg [] w w'):=by
 have z:=Blk.new w #[str x.name,num x.pos,num x.len,.bool x.seen] 68;have hb':=hb.kept ((Chg.refl [] w).alloc (.cells #[str x.name,num x.pos,num x.len,.bool x.seen] 68)) (by simp);have z0:=z.cell 0 _ rfl;have z2:=z.cell 2 _ rfl;have g0:=hb'.cell 0 _ rfl;have g2:=hb'.cell 2 _ rfl;clear hb z hb';cases hq : (x.name == g.name) <;> cases hq2 : (x.len == g.len)
 all_goals
  go_enter Tryz.func55,Tryz.ntmps55
  go_wp2_with fail
  all_goals go_ret
  all_goals exact⟨rfl,(Chg.refl _ _).alloc _⟩
end Go.Proofs.YtechofppmnnomaaGreatDoor
namespace Go.Mq.Run
open Go Go.RowKit Go.Mq Go.Mq.Tree Go.Mq.Sym
open Go.Mq.Check (split_at)
structure Ac where
 what:Int
 text:List UInt8
 name:List UInt8
 proc:List UInt8
 args:List Int
 ad:Option Addr
 cap:Nat
def Ac.cells (x:Ac):List Value:=[num x.what,str x.text,str x.name,str x.proc,.slice x.ad x.args.length x.cap]
structure ActsAt (w:World) (F:Nat→Prop) (l:List Ac) (a:Option Addr):Prop where
 row:Row w F a (l.flatMap Ac.cells)
 args : ∀ x∈l,x.args.length≤x.cap∧Row w F x.ad (ints x.args)
theorem ActsAt.kept {Z:List Nat} {w w':World} {F:Nat→Prop} {l:List Ac} {a:Option Addr} (h:ActsAt w F l a) (hc:Chg Z w w') (hZ : ∀ x∈Z,¬ F x):ActsAt w' F l a:=
 ⟨h.row.kept hc hZ,fun x hx=>⟨(h.args x hx).1,(h.args x hx).2.kept hc hZ⟩⟩
theorem flat5 : ∀ l:List Ac,(l.flatMap Ac.cells).length=l.length * 5
 | []=>rfl
 | x :: r=>by rw [List.flatMap_cons,List.length_append,flat5 r];simp [Ac.cells];omega
theorem act_cells {w:World} {F:Nat→Prop} {a:Option Addr} {l:List Ac} (h:Row w F a (l.flatMap Ac.cells)) {k:Nat} {g:Ac} (hk : l[k]?=some g) :
  ∃ bb off,a=some ⟨bb,off,none⟩∧w.cell? ⟨bb,off + k * 5,none⟩=some (num g.what)∧w.cell? ⟨bb,off + k * 5 + 1,none⟩=some (str g.text)∧w.cell? ⟨bb,off + k * 5 + 2,none⟩=some (str g.name)∧w.cell? ⟨bb,off + k * 5 + 3,none⟩=some (str g.proc)∧w.cell? ⟨bb,off + k * 5 + 4,none⟩=some (.slice g.ad g.args.length g.cap):=by
 obtain⟨h1,h2⟩:=split_at hk;have hn : 0 < (l.flatMap Ac.cells).length:=by rw [flat5];have:=(List.getElem?_eq_some_iff.1 hk).1;omega
 obtain⟨bb,off,rfl,hc⟩:=h.at_ hn;have hg : ∀ i v,g.cells[i]?=some v→w.cell? ⟨bb,off + k * 5 + i,none⟩=some v:=fun i v hv=>by
  have:=hc (k * 5 + i) v (by
   rw [h1,List.flatMap_append,List.flatMap_cons,List.getElem?_append_right (by rw [flat5,h2];omega),flat5,h2,show k * 5 + i - k * 5=i by omega,List.getElem?_append_left (List.getElem?_eq_some_iff.1 hv).1];exact hv)
  rw [← Nat.add_assoc] at this;exact this
 exact⟨bb,off,rfl,hg 0 _ rfl,hg 1 _ rfl,hg 2 _ rfl,hg 3 _ rfl,hg 4 _ rfl⟩
def shortA (x:Ac):Bool:=decide (1000 < x.text.length) || decide (40 < x.name.length) || decide (40 < x.proc.length) || decide (10 < x.args.length)
def heldL (l:List Ac):Bool:=decide (l.length≤12) && !(l.any shortA)
end Go.Mq.Run
namespace Go.Proofs.YtechofppmnnomaaGreatDoor
open Go Go.RowKit Go.Mq Go.Mq.Tree Go.Mq.Sym Go.Mq.Run
open Go.Mq.Check (At1 find_at find_no)
set_option maxRecDepth 100000
set_option maxHeartbeats 4000000
theorem index_act (fid:FuncId) (hF : ∀ (args:Array Value) (w:World),(callFunc fid args).run Tryz.prog w = .ok (.enter fid args) w) (l:List Ac) (hl : l.length≤1000) (p:Ac→Bool) (F:Nat→Prop) (a:Option Addr) (c:Nat) (w:World) (hrow:Row w F a (l.flatMap Ac.cells))
  (hf : ∀ x∈l,∀ w',Chg [] w w'→Calls Tryz.prog fid #[.agg #[num x.what,str x.text,str x.name,str x.proc,.slice x.ad x.args.length x.cap]] w' (fun e w''=>e = .returned (.bool (p x))∧Chg [] w' w'')) :
  Calls Tryz.prog 47 #[.slice a l.length c,.func (.func fid) #[] #[]] w (fun e w'=>At1 l p e∧Chg [] w w'):=by
 have HROW:=zh hrow;have HF:=zh hf;clear hrow hf
 go_enter Tryz.func47,Tryz.ntmps47
 go_wp2_with fail
 go_loopw [5,8] (fun _ i wr=>∃ k:Nat,i = .int .i64 k∧k≤l.length∧Chg [] w wr ∧ ∀ (i:Nat) (x:Ac),i < k→l[i]?=some x→p x=false) (fun _ i _=>l.length - (intOf i).toNat)
 case atStart=>exact⟨0,rfl,Nat.zero_le _,Chg.refl _ _,fun i x hi=>by omega⟩
 case round=>
  obtain⟨k,rfl,hk,hc,hno⟩:=hrel;have HNO:=zh hno;have HC:=zh hc;clear hno hc;by_cases hlt : k < l.length
  ·obtain⟨s,hs⟩ : ∃ s,l[k]?=some s:=⟨l[k],List.getElem?_eq_getElem hlt⟩
   obtain⟨bb,off,rfl,d0,d1,d2,d3,d4⟩:=act_cells (HROW.out.kept HC.out (by simp)) hs;have HS:=zh hs;have HI:=zh (HF.out s (List.mem_of_getElem? hs) wr HC.out);clear hs;cases hq : p s with
   | true=>
    rw [hq] at HI;have HR:=zh (show l.find? p=some s from find_at HS.out hq HNO.out);clear hq;go_wp2_with fail;refine HI.out.mono ?_;rintro _ w2 ⟨rfl,hq⟩;have HQ:=zh (HC.out.then hq);clear hq;go_wp2_with fail;go_ret
    refine⟨?_,HQ.out⟩;rw [At1,HR.out];exact⟨k,HS.out,rfl⟩
   | false=>
    rw [hq] at HI;have HN:=zh hq;clear hq;go_wp2_with fail;refine HI.out.mono ?_;rintro _ w2 ⟨rfl,hq⟩;have HQ:=zh (HC.out.then hq);clear hq;go_wp2_with fail;refine⟨⟨k + 1,by go_num,by omega,HQ.out,fun i x hi hx=>?_⟩,by simp [intOf];omega⟩;by_cases he : i < k
    ·exact HNO.out i x he hx
    ·have : i=k:=by omega
     subst this;rw [HS.out] at hx;cases hx
     exact HN.out
  ·have HR:=zh (show l.find? p=none from find_no fun i x hx=>HNO.out i x (by have:=(List.getElem?_eq_some_iff.1 hx).1;omega) hx)
   go_wp2_with fail;go_ret
   exact⟨by rw [At1,HR.out] <;> rfl,HC.out⟩
theorem contains_act (fid:FuncId) (hF : ∀ (args:Array Value) (w:World),(callFunc fid args).run Tryz.prog w = .ok (.enter fid args) w) (l:List Ac) (hl : l.length≤1000) (p:Ac→Bool) (F:Nat→Prop) (a:Option Addr) (c:Nat) (w:World) (hrow:Row w F a (l.flatMap Ac.cells))
  (hf : ∀ x∈l,∀ w',Chg [] w w'→Calls Tryz.prog fid #[.agg #[num x.what,str x.text,str x.name,str x.proc,.slice x.ad x.args.length x.cap]] w' (fun e w''=>e = .returned (.bool (p x))∧Chg [] w' w'')) :
  Calls Tryz.prog 20 #[.slice a l.length c,.func (.func fid) #[] #[]] w (fun e w'=>e = .returned (.bool (l.any p))∧Chg [] w w'):=by
 have HI:=zh (index_act fid hF l hl p F a c w hrow hf);clear hrow hf
 go_enter Tryz.func20,Tryz.ntmps20
 go_wp2_with fail;refine HI.out.mono ?_;rintro e w1 ⟨hat,hc⟩;have HC:=zh hc;have hfd:=any_findA l p;clear hc;rw [At1] at hat;cases hx : l.find? p with
 | none=>
  rw [hx] at hat hfd;simp only at hat;subst hat;have HAF:=zh (show l.any p=false from hfd);clear hfd hx;go_wp2_with fail;go_ret
  exact⟨by rw [HAF.out] <;> rfl,HC.out⟩
 | some x=>
  rw [hx] at hat hfd;obtain⟨k,hk,rfl⟩:=hat;have HAF:=zh (show l.any p=true from hfd);have hkz : decide ((0:Int)≤(k:Int))=true:=by simp
  clear hfd hx hk;go_wp2_with fail;go_ret
  exact⟨by rw [HAF.out] <;> simp,HC.out⟩
theorem held1_any (x:Ac) (w:World) (ht : x.text.length≤9223372036854775807) (hn : x.name.length≤9223372036854775807) (hp : x.proc.length≤9223372036854775807) (hr : x.args.length≤9223372036854775807) :
  Calls Tryz.prog 46 #[.agg #[num x.what,str x.text,str x.name,str x.proc,.slice x.ad x.args.length x.cap]] w (fun e w'=>e = .returned (.bool (shortA x))∧Chg [] w w'):=by
 have z:=Blk.new w #[num x.what,str x.text,str x.name,str x.proc,.slice x.ad x.args.length x.cap] 57;have z1:=z.cell 1 _ rfl;have z2:=z.cell 2 _ rfl;have z3:=z.cell 3 _ rfl;have z4:=z.cell 4 _ rfl;clear z
 go_enter Tryz.func46,Tryz.ntmps46
 go_wp2_with fail
 all_goals go_ret
 all_goals refine⟨?_,(Chg.refl _ _).alloc _⟩
 all_goals
  show Ending.returned (Value.bool _)=Ending.returned (Value.bool (shortA x))
  congr 2
  simp only [shortA];have e1 : ((1000:Int) < (x.text.length:Int))↔1000 < x.text.length:=by omega
  have e2 : ((40:Int) < (x.name.length:Int))↔40 < x.name.length:=by omega
  have e3 : ((40:Int) < (x.proc.length:Int))↔40 < x.proc.length:=by omega
  have e4 : ((10:Int) < (x.args.length:Int))↔10 < x.args.length:=by omega
  simp_all
theorem held_any (l:List Ac) (hl : l.length≤9223372036854775807) (F:Nat→Prop) (a:Option Addr) (c:Nat) (w:World) (hrow:Row w F a (l.flatMap Ac.cells))
  (hf : ∀ x∈l,x.text.length≤9223372036854775807∧x.name.length≤9223372036854775807∧x.proc.length≤9223372036854775807∧x.args.length≤9223372036854775807) :
  Calls Tryz.prog 19 #[.slice a l.length c] w (fun e w'=>e = .returned (.bool (heldL l))∧Chg [] w w'):=by
 by_cases hx : l.length≤12
 rotate_left
 ·have h1 : decide (l.length≤12)=false:=by simpa using hx
  have HS:=zh (show heldL l=(decide (l.length≤12) && !(l.any shortA)) from rfl);rw [h1] at HS;clear hrow hf
  go_enter Tryz.func19,Tryz.ntmps19
  go_wp2_with fail;go_ret
  exact⟨by rw [HS.out] <;> rfl,Chg.refl _ _⟩
 ·have h1 : decide (l.length≤12)=true:=by simpa using hx
  have HS:=zh (show heldL l=(decide (l.length≤12) && !(l.any shortA)) from rfl);rw [h1] at HS;have HC:=zh (contains_act 46 (fun _ _=>rfl) l (by omega) shortA F a c w hrow (fun x hx w' hc=>by
   obtain⟨f1,f2,f3,f4⟩:=hf x hx;exact held1_any x w' f1 f2 f3 f4))
  clear hrow hf
  go_enter Tryz.func19,Tryz.ntmps19
  go_wp2_with fail;refine HC.out.mono ?_;rintro _ w1 ⟨rfl,hc⟩;have HC1:=zh hc;clear hc;go_wp2_with fail;go_ret
  exact⟨by rw [HS.out] <;> simp,HC1.out⟩
end Go.Proofs.YtechofppmnnomaaGreatDoor
namespace Go.Mq.Run
open Go Go.RowKit Go.Mq Go.Mq.Tree Go.Mq.Sym
open Go.Mq.Check (check Out)
def up (n:Nat) (s:St):St:={ s with fuel:=s.fuel + n }
def Beg {α:Type} (s:St) (o:O α):Prop:=match o with
 | .ok _ s'=>s.out <+: s'.out
 | .stop _ s'=>s.out <+: s'.out
 | .stuck=>True
def MoR {α:Type} (n:Nat) (a b:O α):Prop:=match a with
 | .ok x s=>b = .ok x (up n s)
 | .stop w s=>if w=5 then Beg s b else b = .stop w (up n s)
 | .stuck=>True
structure MoA {α:Type} (n:Nat) (f:St→O α):Prop where
 mo : ∀ s,MoR n (f s) (f (up n s))
 al : ∀ s,Al (fun s s'=>s.out <+: s'.out) s (f s)
variable {n:Nat}
theorem MoA.bind {α β:Type} {f:St→O α} {g : α→St→O β} (hf:MoA n f) (hg : ∀ x,MoA n (g x)):MoA n (fun s=>(f s).bind g) where
 al s:=Al.bind keeps_out (hf.al s) fun a s'=>(hg a).al s'
 mo s:=by
  have h:=hf.mo s
  show MoR n ((f s).bind g) ((f (up n s)).bind g)
  cases hfs : f s with
  | stuck=>trivial
  | ok x s1=>
   rw [hfs] at h;have h : f (up n s) = .ok x (up n s1):=h;rw [h];exact(hg x).mo s1
  | stop w s1=>
   rw [hfs] at h;by_cases hw : w=5
   ·subst hw
    have h:Beg s1 (f (up n s)):=h
    show Beg s1 ((f (up n s)).bind g)
    cases hb : f (up n s) with
    | stuck=>trivial
    | stop w2 s2=>rw [hb] at h;exact h
    | ok x s2=>
     rw [hb] at h;have h : s1.out <+: s2.out:=h;have h2:=(hg x).al s2
     show Beg s1 (g x s2)
     cases hx : g x s2 with
     | stuck=>trivial
     | stop w3 s3=>rw [hx] at h2;exact List.IsPrefix.trans h h2
     | ok y s3=>rw [hx] at h2;exact List.IsPrefix.trans h h2
   ·have h : f (up n s) = .stop w (up n s1):=by simpa [MoR,hw] using h
    rw [h];simp [MoR,hw,O.bind]
theorem MoA.ok {α:Type} (x : α):MoA n (fun s=>.ok x s):=⟨fun _=>rfl,fun _=>List.prefix_rfl⟩
theorem MoA.stop {α:Type} (w:Nat) (hw : w≠5):MoA n (fun s=>(.stop w s:O α)):=⟨fun s=>by simp [MoR,hw],fun _=>List.prefix_rfl⟩
theorem MoA.stuck {α:Type} : MoA n (fun _=>(.stuck:O α)):=⟨fun _=>trivial,fun _=>trivial⟩
theorem MoA.ite {α:Type} (c:Prop) [Decidable c] {f g:St→O α} (hf:MoA n f) (hg:MoA n g):MoA n (fun s=>if c then f s else g s):=by
 by_cases h : c
 ·simpa only [if_pos h] using hf
 ·simpa only [if_neg h] using hg
theorem mo_tick:MoA n tick where
 al s:=al_tick keeps_out s
 mo s:=by
  unfold tick
  by_cases h : s.fuel=0
  ·rw [if_pos h]
   show Beg s _
   split
   ·exact List.prefix_rfl
   ·exact List.prefix_rfl
  ·rw [if_neg h,if_neg (by show s.fuel + n≠0;omega)]
   show O.ok () _=O.ok () _
   simp only [up]
   congr 2
   omega
theorem mo_item (q x:Nm) (k:Int):MoA n (fun s=>itemO (s.vs q x) k s) where
 al s:=al_item keeps_out _ _ _
 mo s:=by
  show MoR n (itemO (s.vs q x) k s) (itemO (s.vs q x) k (up n s))
  unfold itemO
  split
  ·simp [MoR]
  ·split
   ·rfl
   ·simp [MoR]
theorem mo_var (q x:Nm):MoA n (fun s=>varO (s.vs q x) s) where
 al s:=al_var keeps_out _ _
 mo s:=by
  show MoR n (varO (s.vs q x) s) (varO (s.vs q x) (up n s))
  unfold varO
  split
  ·rfl
  ·trivial
theorem mo_set (q:Nm) (fr:Fr) (x:Nm) (k v:Int):MoA n (fun s=>setO q fr x k v s) where
 al s:=al_set keeps_out _ _ _ _ _ _
 mo s:=by
  show MoR n (setO q fr x k v s) (setO q fr x k v (up n s))
  unfold setO
  split
  ·rfl
  ·show MoR n (match s.vs q x with
    | none=>.stop 3 s
    | some l=>if 0≤k∧k < l.length then O.ok (Fl.go,fr) { s with vs:=putV s.vs q x (l.set k.toNat v) } else .stop 3 s) (match s.vs q x with
    | none=>.stop 3 (up n s)
    | some l=>if 0≤k∧k < l.length then O.ok (Fl.go,fr) { (up n s) with vs:=putV s.vs q x (l.set k.toNat v) } else .stop 3 (up n s))
   cases s.vs q x with
   | none=>simp [MoR]
   | some l=>
    simp only;split
    ·rfl
    ·simp [MoR]
theorem mo_out (fr:Fr) (k:Int):MoA n (fun s=>if s.out.length=200 then O.stop 6 s else .ok (Fl.go,fr) { s with out:=s.out ++ [k] }) where
 al s:=by
  show Al _ s (if s.out.length=200 then O.stop 6 s else .ok (Fl.go,fr) { s with out:=s.out ++ [k] })
  split
  ·exact List.prefix_rfl
  ·exact List.prefix_append _ _
 mo s:=by
  show MoR n (if s.out.length=200 then O.stop 6 s else .ok (Fl.go,fr) { s with out:=s.out ++ [k] }) (if s.out.length=200 then O.stop 6 (up n s) else .ok (Fl.go,fr) { (up n s) with out:=s.out ++ [k] })
  split
  ·simp [MoR]
  ·rfl
structure MoF (n:Nat) (F:Fns):Prop where
 e : ∀ d q fr x,MoA n (F.e d q fr x)
 es : ∀ d q fr x,MoA n (F.es d q fr x)
 c : ∀ d q p a,MoA n (F.c d q p a)
 b : ∀ d q fr x,MoA n (F.b d q fr x)
 l : ∀ d q fr v t,MoA n (F.l d q fr v t)
theorem mo_step {M:Ms} {F:Fns} (h:MoF n F):MoF n ⟨stepE M F,stepEs F,stepC F,stepB F,stepL F⟩ where
 e d q fr x:=by
  show MoA n (stepE M F d q fr x)
  cases x with
  | num p k=>exact .ok _
  | var p m k=>
   show MoA n (fun s=>if m=[] then match getF fr k with
    | some v=>O.ok v s
    | none=>varO (s.vs q k) s
   else varO (s.vs m k) s)
   refine .ite _ ?_ (mo_var _ _);cases getF fr k with
   | none=>exact mo_var _ _
   | some v=>exact .ok _
  | item p m k i=>exact .ite _ (.bind (h.e _ _ _ _) fun x=>mo_item _ _ _) .stuck
  | un p op x=>exact .bind (h.e _ _ _ _) fun _=>.ok _
  | bin p op x y=>
   refine .bind (h.e _ _ _ _) fun a=>.ite _ (.ite _ (.ok _) (.bind (h.e _ _ _ _) fun _=>.ok _)) (.bind (h.e _ _ _ _) fun b=>?_)
   show MoA n (fun s=>match both op a b with
    | some k=>O.ok k s
    | none=>.stop 2 s)
   cases both op a b with
   | none=>exact .stop _ (by decide)
   | some k=>exact .ok _
  | app p m k l=>
   show MoA n (fun s=>match M (where_ q m) with
    | none=>.stuck
    | some mo=>match mo.procs.find? fun p=>p.name == k with
     | none=>.stuck
     | some p=>(F.es d q fr l s).bind fun args s=>F.c d (where_ q m) p args s)
   cases M (where_ q m) with
   | none=>exact .stuck
   | some mo=>
    show MoA n (fun s=>match mo.procs.find? fun p=>p.name == k with
     | none=>.stuck
     | some p=>(F.es d q fr l s).bind fun args s=>F.c d (where_ q m) p args s)
    cases mo.procs.find? fun p=>p.name == k with
    | none=>exact .stuck
    | some p=>exact .bind (h.es _ _ _ _) fun a=>h.c _ _ _ _
  | nil=>exact .stuck
  | cons x r=>exact .stuck
 es d q fr x:=by
  show MoA n (stepEs F d q fr x)
  cases x with
  | nil=>exact .ok _
  | cons x r=>exact .bind (h.e _ _ _ _) fun k=>.bind (h.es _ _ _ _) fun _=>.ok _
  | _=>exact .stuck
 c d q p a:=by
  exact .ite _ (.stop _ (by decide)) (.ite _ .stuck (.bind (h.b _ _ _ _) fun _=>.ok _))
 b d q fr x:=by
  refine .ite _ (.ok _) (.bind ?_ fun x=>?_)
  ·show MoA n (fun s=>stmtO F d q fr _ s)
   cases x with
   | nil=>exact .stuck
   | set p k i v r=>
    refine .bind mo_tick fun _=>.bind ?_ fun k=>.bind (h.e _ _ _ _) fun v=>mo_set _ _ _ _ _
    cases i with
    | none=>exact .ok _
    | some i=>exact h.e _ _ _ _
   | ifs p v t e r=>exact .bind mo_tick fun _=>.bind (h.e _ _ _ _) fun k=>.ite _ (h.b _ _ _ _) (h.b _ _ _ _)
   | whil p v t r=>exact .bind mo_tick fun _=>h.l _ _ _ _ _
   | ret p v r=>exact .bind mo_tick fun _=>.bind (h.e _ _ _ _) fun _=>.ok _
   | wri p v r=>exact .bind mo_tick fun _=>.bind (h.e _ _ _ _) fun k=>mo_out _ _
   | call p v r=>exact .bind mo_tick fun _=>.bind (h.e _ _ _ _) fun _=>.ok _
  ·obtain⟨x1,x2⟩:=x
   cases x1 with
   | go=>exact h.b _ _ _ _
   | ret k=>exact .ok _
 l d q fr v t:=by
  refine .bind (h.e _ _ _ _) fun k=>.ite _ (.ok _) (.bind (h.b _ _ _ _) fun x=>?_)
  obtain⟨x1,x2⟩:=x;cases x1 with
  | go=>exact .bind mo_tick fun _=>h.l _ _ _ _ _
  | ret k=>exact .ok _
theorem more (M:Ms) (n:Nat) : ∀ g,MoF n (fns M g)
 | 0=>⟨fun _ _ _ _=>.stuck,fun _ _ _ _=>.stuck,fun _ _ _ _=>.stuck,fun _ _ _ _=>.stuck,fun _ _ _ _ _=>.stuck⟩
 | g + 1=>mo_step (more M n g)
end Go.Mq.Run
namespace Go.Proofs.YtechofppmnnomaaGreatDoor
open Go Go.RowKit Go.Mq Go.Mq.Tree Go.Mq.Sym Go.Mq.Run
open Go.Mq.Check (check Out)
noncomputable def actW (g:Nat) (W:Wd) (x:Ac) (fuel:Nat):Option (Wd × Nat × List Int × Int × Int):=
 if x.what=1 then (callW g W x.name x.proc x.args fuel).map fun r=>(r.1,r.2.1,r.2.2.1,r.2.2.2.1,codeO r.2.2.2.2)
 else match parse x.text with
 | .bad en _=>some (W,0,[],0,en)
 | .ok m=>if x.what=2 then some ((swapW W m).1,0,[],0,codeO (swapW W m).2)
  else (loadW g W m fuel).map fun r=>(r.1,r.2.1,r.2.2.1,0,codeO r.2.2.2)
theorem act_total {W:Wd} (hI:Inv W) {x:Ac} (ht : x.text.length≤1000) (fuel:Nat) : ∃ g r,actW g W x fuel=some r∧Inv r.1:=by
 by_cases h1 : x.what=1
 ·obtain⟨g,r,h2,h3⟩:=call_total hI x.name x.proc x.args fuel
  exact⟨g,_,by rw [actW,if_pos h1,h2];rfl,h3⟩
 ·cases hp : parse x.text with
  | bad en p=>exact⟨0,_,by rw [actW,if_neg h1,hp],hI⟩
  | ok m=>
   have hg:=good_of ht hp;by_cases h2 : x.what=2
   ·exact⟨0,((swapW W m).1,0,[],0,codeO (swapW W m).2),by rw [actW,if_neg h1,hp];simp only [h2,if_true],swap_inv hI hg⟩
   ·obtain⟨g,r,h3,h4⟩:=load_total hI hg fuel
    exact⟨g,_,by rw [actW,if_neg h1,hp];simp only [h2,if_false,h3];rfl,h4⟩
theorem load_refuses {g:Nat} {W:Wd} {m:Mod} {f:Nat} {r:Wd × Nat × List Int × Out} (h : loadW g W m f=some r) (hn : codeO r.2.2.2≠0) : r.1=W∧r.2.1=0∧r.2.2.1=[]:=by
 unfold loadW at h
 split at h
 ·cases h;exact⟨rfl,rfl,rfl⟩
 ·cases hc : check m (seenOf W.M) with
  | plain k=>rw [hc] at h;cases h;exact⟨rfl,rfl,rfl⟩
  | at_ e p=>rw [hc] at h;cases h;exact⟨rfl,rfl,rfl⟩
  | fine=>
   rw [hc] at h;simp only at h;split at h
   ·cases h;exact⟨rfl,rfl,rfl⟩
   ·split at h
    ·cases h
    ·cases h;exact(hn rfl).elim
    ·cases h;exact(hn rfl).elim
theorem call_refuses {g:Nat} {W:Wd} {q n:Run.Nm} {args:List Int} {f:Nat} {r:Wd × Nat × List Int × Int × Out} (h : callW g W q n args f=some r) (hn : codeO r.2.2.2.2≠0) : r.1=W∧r.2.1=0∧r.2.2.1=[]∧r.2.2.2.1=0:=by
 unfold callW at h
 repeat' split at h
 all_goals first
  | (cases h;exact⟨rfl,rfl,rfl,rfl⟩)
  | (cases h;exact(hn rfl).elim)
  | (cases h;done)
theorem swap_refuses {W:Wd} {m:Mod} (hn : codeO (swapW W m).2≠0) : (swapW W m).1=W:=by
 rw [swapW] at hn ⊢
 repeat' split
 all_goals first
  | rfl
  | (simp_all [codeO];done)
theorem act_refuses {g:Nat} {W:Wd} {x:Ac} {f:Nat} {r:Wd × Nat × List Int × Int × Int} (h : actW g W x f=some r) (hn : r.2.2.2.2≠0) : r.1=W∧r.2.1=0∧r.2.2.1=[]∧r.2.2.2.1=0:=by
 unfold actW at h
 split at h
 ·obtain⟨r',h1,rfl⟩:=Option.map_eq_some_iff.1 h
  exact call_refuses h1 hn
 ·cases hp : parse x.text with
  | bad en p=>rw [hp] at h;cases h;exact⟨rfl,rfl,rfl,rfl⟩
  | ok m=>
   rw [hp] at h;simp only at h;split at h
   ·cases h;exact⟨swap_refuses hn,rfl,rfl,rfl⟩
   ·obtain⟨r',h1,rfl⟩:=Option.map_eq_some_iff.1 h
    obtain⟨h2,h3,h4⟩:=load_refuses h1 hn;exact⟨h2,h3,h4,rfl⟩
end Go.Proofs.YtechofppmnnomaaGreatDoor
