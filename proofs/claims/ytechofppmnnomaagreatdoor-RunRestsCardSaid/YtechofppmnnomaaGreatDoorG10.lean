/- Some texts in one. -/
import Derived.Shelf.Strings.Prefix
import Derived.Test.YtechofppmnnomaaGreatDoorG1
import Derived.Test.YtechofppmnnomaaGreatDoorG7
import Derived.Test.YtechofppmnnomaaGreatDoorG9
namespace Go.Mq.Tree
open Go Go.RowKit Go.Mq
theorem framed_Names (l:List (List UInt8)) (v:Value):Framed (fun w F=>NamesAt w F l v):=⟨fun hF h=>h.mono hF,fun hc hS h=>h.kept hc hS⟩
theorem framed_Sl (s:S) (v:Value):Framed (fun w F=>SlAt w F s v):=⟨fun hF h=>h.mono hF,fun hc hS h=>h.kept hc hS⟩
theorem framed_true:Framed (fun _ _=>True):=⟨fun _ h=>h,fun _ _ h=>h⟩
theorem Framed.and {Q Q':World→(Nat→Prop)→Prop} (h:Framed Q) (h':Framed Q'):Framed (fun w F=>Q w F∧Q' w F):=⟨fun hF x=>⟨h.mono hF x.1,h'.mono hF x.2⟩,fun hc hS x=>⟨h.kept hc hS x.1,h'.kept hc hS x.2⟩⟩
structure Mk (T:TypeId) (w wk:World) (B bp bt z:Nat) (tk:List Tok) (zs cs:Array Value) (Q:World→(Nat→Prop)→Prop):Prop where
 fr:Framed Q
 hbp : bp < w.heap.size
 hbt : bt < w.heap.size
 chg:Chg [bp] w wk
 par:Par wk B bp bt z tk
 blk:Blk wk (w.heap.size + 1) cs T
 res:Blk wk w.heap.size zs T
 sz : w.heap.size + 2≤wk.heap.size
 q:Q wk (New2 w wk)
section
variable {T:TypeId} {w wk w':World} {B bp bt z:Nat} {tk t':List Tok} {zs cs:Array Value} {Q Q':World→(Nat→Prop)→Prop}
theorem Mk.step (h:Mk T w wk B bp bt z tk zs cs Q) (hc:Chg [bp] wk w') (hp:Par w' B bp bt z t'):Mk T w w' B bp bt z t' zs cs Q:=
 ⟨h.fr,h.hbp,h.hbt,h.chg.then hc,hp,h.blk.kept hc (by have:=h.hbp;simp;omega),h.res.kept hc (by have:=h.hbp;simp;omega),Nat.le_trans h.sz hc.size,
  h.fr.mono (fun x hx=>⟨hx.1,Nat.lt_of_lt_of_le hx.2 hc.size⟩) (h.fr.kept hc (fun x hx hn=>by have:=h.hbp;simp at hx;have:=hn.1;omega) h.q)⟩
theorem Mk.add (h:Mk T w wk B bp bt z tk zs cs Q) (hf:Framed Q') (hq:Q' wk (New2 w wk)):Mk T w wk B bp bt z tk zs cs (fun w F=>Q w F∧Q' w F):=
 ⟨h.fr.and hf,h.hbp,h.hbt,h.chg,h.par,h.blk,h.res,h.sz,h.q,hq⟩
theorem Mk.call (h:Mk T w wk B bp bt z tk zs cs Q) (hc:Chg [bp] wk w') (hp:Par w' B bp bt z t') (hf:Framed Q') (hq:Q' w' (New wk w')):Mk T w w' B bp bt z t' zs cs (fun w F=>Q w F∧Q' w F):=
 (h.step hc hp).add hf (hf.mono (fun _ hx=>⟨Nat.le_trans h.sz hx.1,hx.2⟩) hq)
theorem Mk.store (h:Mk T w wk B bp bt z tk zs cs Q) (i:Nat) (v:Value):Mk T w (wk.setCell ⟨w.heap.size + 1,i,none⟩ v) B bp bt z tk zs (cs.setIfInBounds i v) Q:=by
 have hc:Chg [w.heap.size + 1] wk (wk.setCell ⟨w.heap.size + 1,i,none⟩ v):=Chg.set1 _ _ _ _;have h1:=h.hbp;have h2:=h.hbt;have h3:=h.par.laid.le;have h4:=h.par.bpB;exact⟨h.fr,h1,h2,h.chg.trans hc (fun x hx=>.inr (by simp at hx;omega)),h.par.kept hc (fun x hx=>by simp at hx;omega) (by simp;omega) (by simp;omega),h.blk.set i v,h.res.kept hc (by simp),Nat.le_trans h.sz hc.size,
  h.fr.mono (fun x hx=>⟨hx.1,Nat.lt_of_lt_of_le hx.2 hc.size⟩) (h.fr.kept hc (fun x hx hn=>by simp at hx;have:=hn.1;omega) h.q)⟩
theorem Mk.fin (h:Mk T w wk B bp bt z tk zs cs Q) (hc:Chg [w.heap.size] wk w'):Q w' (New w w'):=
 h.fr.mono (fun x hx=>⟨by have:=hx.1;omega,Nat.lt_of_lt_of_le hx.2 hc.size⟩) (h.fr.kept hc (fun x hx hn=>by simp at hx;have:=hn.1;omega) h.q)
end
theorem namesL_most {z most:Nat} : ∀ f l (ts:List Tok) a r,l.length≤most→namesL z most f l ts = .ok a r→a.length≤most:=by
 intro f
 induction f with
 | zero=>intro l ts a r _ h;cases h
 | succ f ih=>
  intro l ts a r hl h;rw [namesL] at h;split at h
  ·cases h
  ·rename_i hne
   cases hn : name z ts with
   | bad e q=>simp only [hn] at h;cases h
   | ok n r1=>
    simp only [hn] at h;split at h
    ·exact ih _ _ _ _ (by simp;omega) h
    ·cases h;simp;omega
theorem names_most {z most:Nat} {ts r:List Tok} {l:List (List UInt8)} (h : names z most ts = .ok l r) : l.length≤most:=namesL_most _ _ _ _ _ (Nat.zero_le _) h
theorem sub_wrap {k:Nat} (h : k≤10):IntKind.i64.wrap (10 - (k:Int))=((10 - k:Nat):Int):=by
 simp only [IntKind.wrap,IntKind.bits,IntKind.signed];simp;omega
theorem set6 {w:World} {b:Nat} (v0 v1 v2 v3 v4 v5:Value) {u0 u1 u2 u3 u4 u5:Value} {t:TypeId} (h:Blk w b #[u0,u1,u2,u3,u4,u5] t) : ∃ wF,((((((w.setCell ⟨b,0,none⟩ v0).setCell ⟨b,1,none⟩ v1).setCell ⟨b,2,none⟩ v2).setCell ⟨b,3,none⟩ v3).setCell ⟨b,4,none⟩ v4).setCell ⟨b,5,none⟩ v5)=wF∧Chg [b] w wF∧Blk wF b #[v0,v1,v2,v3,v4,v5] t:=
 ⟨_,rfl,(((((Chg.set1 _ _ _ _).then (Chg.set1 _ _ _ _)).then (Chg.set1 _ _ _ _)).then (Chg.set1 _ _ _ _)).then (Chg.set1 _ _ _ _)).then (Chg.set1 _ _ _ _),by
  have:=(((((h.set 0 v0).set 1 v1).set 2 v2).set 3 v3).set 4 v4).set 5 v5
  simpa using this⟩
end Go.Mq.Tree
namespace Go.Proofs.YtechofppmnnomaaGreatDoor
open Go Go.RowKit Go.Mq Go.Mq.Tree
set_option maxRecDepth 100000
set_option maxHeartbeats 16000000
abbrev PV (w:World):World→Proc→Value→Prop:=fun w' x v=>∃ cs,v = .agg cs.toArray∧PrAt w' (New w w') x cs
theorem proc_any (w:World) (B bp bt z:Nat) (ts:List Tok) (h:Par w B bp bt z ts):Calls Tryz.prog 75 #[ptr bp] w (Ended w B bp bt z (proc z ts) (PV w)):=by
 have hbp:=h.bp_lt;have hbt:=h.bt_lt;have hB0:=h.laid.le;have hBp:=h.bpB;obtain⟨off,c,nn,c0,c2⟩:=par_at h;have hw1 : (w.alloc (.cells #[str [],.int .i64 0,.bool false,nils,nils,nils] 72)).heap.size=w.heap.size + 1:=by simp
 obtain⟨w0,hw0⟩ : ∃ w0,w0=(w.alloc (.cells #[str [],.int .i64 0,.bool false,nils,nils,nils] 72)).alloc (.cells #[str [],.int .i64 (hd z ts),.bool false,nils,nils,nils] 72):=⟨_,rfl⟩
 have hb0:=Blk.new (w.alloc (.cells #[str [],.int .i64 0,.bool false,nils,nils,nils] 72)) #[str [],.int .i64 (hd z ts),.bool false,nils,nils,nils] 72;rw [hw1,← hw0] at hb0;have H0:Hid (Mk 72 w w0 B bp bt z ts #[str [],.int .i64 0,.bool false,nils,nils,nils] #[str [],.int .i64 (hd z ts),.bool false,nils,nils,nils] (fun _ _=>True)):=zh (by
  refine⟨framed_true,hbp,hbt,?_,?_,hb0,?_,?_,trivial⟩
  ·rw [hw0];exact((Chg.refl _ _).alloc _).alloc _
  ·rw [hw0];exact h.kept (((Chg.refl [] w).alloc _).alloc _) (by simp) (by simp) (by simp)
  ·rw [hw0];exact(Blk.new w _ 72).kept ((Chg.refl [] _).alloc _) (by simp)
  ·rw [hw0];simp)
 clear h hb0 hw1
 go_enter Tryz.func75,Tryz.ntmps75
 go_wp2_with fail;clear c0 c2
 change Calls _ _ _ ((w.alloc (.cells #[str [],.int .i64 0,.bool false,nils,nils,nils] 72)).alloc (.cells #[str [],.int .i64 (hd z ts),.bool false,nils,nils,nils] 72)) _
 rw [← hw0];clear hw0;have K1:=zh (must_any [112,114,111,99] _ B bp bt z ts H0.out.par);cases hx : must z [112,114,111,99] ts with
 | bad en q=>
  have HRR:=zh (show proc z ts = .bad en q by rw [proc];simp only [hx]);rw [hx] at K1;clear hx;go_wp2_with fail;refine K1.out.mono ?_;intro e w9 he;have HEE:=zh he;obtain⟨b9,rfl⟩:=he.thrown;clear he;go_wp2_with fail;refine⟨rfl,?_⟩;rw [HRR.out];exact HEE.out.relay (H0.out.chg)
 | ok aK rK=>
  have HXK1:=zh hx;rw [hx] at K1;clear hx;go_wp2_with fail;obtain⟨r1,rfl⟩ : ∃ r1,r1=rK:=⟨rK,rfl⟩
  refine K1.out.mono ?_;rintro _ w1 ⟨hc,_,rfl,rfl,hp⟩;have H1:=zh (H0.out.step hc hp);clear hc hp;have KNm:=zh (name_any w1 B bp bt z r1 H1.out.par);cases hx : name z r1 with
  | bad en q=>
   have HRR:=zh (show proc z ts = .bad en q by rw [proc];simp only [HXK1.out,hx]);rw [hx] at KNm;clear hx;go_wp2_with fail;refine KNm.out.mono ?_;intro e w9 he;have HEE:=zh he;obtain⟨b9,rfl⟩:=he.thrown;clear he;go_wp2_with fail;refine⟨rfl,?_⟩;rw [HRR.out];exact HEE.out.relay (H1.out.chg)
  | ok aK rK=>
   have HXKNm:=zh hx;rw [hx] at KNm;clear hx;go_wp2_with fail;obtain⟨n,rfl⟩ : ∃ n,n=aK:=⟨aK,rfl⟩
   obtain⟨r2,rfl⟩ : ∃ r2,r2=rK:=⟨rK,rfl⟩
   refine KNm.out.mono ?_;rintro _ w2 ⟨hc,_,rfl,rfl,hp⟩;have H2:=zh (H1.out.step hc hp);clear hc hp;have KS:=zh (take_any [42] w2 B bp bt z r2 H2.out.par);go_wp2_with fail;refine KS.out.mono ?_;rintro _ w3 ⟨rfl,hp,hc,_⟩;have H3a:=zh (H2.out.step hc hp);clear hc hp;have hb3:=H3a.out.blk;have f0:=hb3.frozen 0;have e0:=hb3.cell 0 _ rfl;have f2:=hb3.frozen 2;have e2:=hb3.cell 2 _ rfl;obtain⟨w3b,hw3⟩ : ∃ w3b,w3b=(w3.setCell ⟨w.heap.size + 1,0,none⟩ (str n)).setCell ⟨w.heap.size + 1,2,none⟩ (.bool (see [42] r2)):=⟨_,rfl⟩
   have H3:=zh ((H3a.out.store 0 (str n)).store 2 (.bool (see [42] r2)));simp only [Array.setIfInBounds] at H3;rw [← hw3] at H3;clear hb3;have K4:=zh (must_any [40] _ B bp bt z (skip [42] r2) H3.out.par);cases hx : must z [40] (skip [42] r2) with
   | bad en q=>
    have HRR:=zh (show proc z ts = .bad en q by rw [proc];simp only [HXK1.out,HXKNm.out,hx]);rw [hx] at K4;clear hx;go_wp2_with fail;rw [← hw3];refine K4.out.mono ?_;intro e w9 he;have HEE:=zh he;obtain⟨b9,rfl⟩:=he.thrown;clear he;go_wp2_with fail;refine⟨rfl,?_⟩;rw [HRR.out];exact HEE.out.relay (H3.out.chg)
   | ok aK rK=>
    have HXK4:=zh hx;rw [hx] at K4;clear hx;go_wp2_with fail;rw [← hw3];obtain⟨r4,rfl⟩ : ∃ r4,r4=rK:=⟨rK,rfl⟩
    refine K4.out.mono ?_;rintro _ w4 ⟨hc,_,rfl,rfl,hp⟩;have H4:=zh (H3.out.step hc hp);clear hc hp;obtain⟨r3,hr3⟩ : ∃ r3,r3=r4:=⟨_,rfl⟩
    subst hr3;clear f0 e0 f2 e2 hw3;have KT1:=zh (take_any [41] w4 B bp bt z r3 H4.out.par);cases hk : see [41] r3 with
    | true=>
     have HI1:=zh hk;clear hk;go_wp2_with fail;refine KT1.out.mono ?_;rintro _ w5 ⟨rfl,hp,hc,_⟩;rw [HI1.out];rw [skip,HI1.out,if_pos rfl] at hp;have H5:=zh ((H4.out.step hc hp).add (framed_Names [] nils) NamesAt.nil);clear hc hp;obtain⟨r4,hr4⟩ : ∃ r4,r4=r3.tail:=⟨_,rfl⟩
     have HP5:=zh (show params z r3 = .ok [] r4 by rw [params,if_pos HI1.out,hr4]);rw [← hr4] at H5;clear hr4;have hps : ([] : List (List UInt8)).length≤10:=by simp
     have K15:=zh (must_any [59] _ B bp bt z r4 H5.out.par);cases hx : must z [59] r4 with
     | bad en q=>
      have HRR:=zh (show proc z ts = .bad en q by rw [proc];simp only [HXK1.out,HXKNm.out,HXK4.out,HP5.out,hx]);rw [hx] at K15;clear hx;go_wp2_with fail;refine K15.out.mono ?_;intro e w9 he;have HEE:=zh he;obtain⟨b9,rfl⟩:=he.thrown;clear he;go_wp2_with fail;refine⟨rfl,?_⟩;rw [HRR.out];exact HEE.out.relay (H5.out.chg)
     | ok aK rK=>
      have HXK15:=zh hx;rw [hx] at K15;clear hx;go_wp2_with fail;obtain⟨r15,rfl⟩ : ∃ r15,r15=rK:=⟨rK,rfl⟩
      refine K15.out.mono ?_;rintro _ w15 ⟨hc,_,rfl,rfl,hp⟩;have H15:=zh (H5.out.step hc hp);clear hc hp;have KT:=zh (take_any [118,97,114] w15 B bp bt z r15 H15.out.par);have h3:=H15.out.blk.cell 3 _ rfl;cases hk : see [118,97,114] r15 with
      | true=>
       have HIv:=zh hk;clear hk;go_wp2_with fail;refine KT.out.mono ?_;rintro _ w16 ⟨rfl,hp,hc,_⟩;rw [HIv.out];rw [skip,HIv.out,if_pos rfl] at hp;have H16a:=zh (H15.out.step hc hp);clear hc hp h3;have h3:=H16a.out.blk.cell 3 _ rfl;have hsub:=sub_wrap hps;have KN:=zh (names_any (10 - ([] : List (List UInt8)).length) (by omega) w16 B bp bt z r15.tail H16a.out.par);cases hx : names z (10 - ([] : List (List UInt8)).length) r15.tail with
       | bad en q=>
        have HRR:=zh (show proc z ts = .bad en q by rw [proc];simp only [HXK1.out,HXKNm.out,HXK4.out,HP5.out,HXK15.out,locals,HIv.out,if_true,hx]);rw [hx] at KN;clear hx;go_wp2_with fail;refine KN.out.mono ?_;intro e w9 he;have HEE:=zh he;obtain⟨b9,rfl⟩:=he.thrown;clear he;go_wp2_with fail;refine⟨rfl,?_⟩;rw [HRR.out];exact HEE.out.relay (H16a.out.chg)
       | ok aK rK=>
        have HXKN:=zh hx;rw [hx] at KN;clear hx;go_wp2_with fail;obtain⟨vs,rfl⟩ : ∃ vs,vs=aK:=⟨aK,rfl⟩
        obtain⟨r16,rfl⟩ : ∃ r16,r16=rK:=⟨rK,rfl⟩
        refine KN.out.mono ?_;rintro _ w17 ⟨hc,_,rfl,hv,hp⟩;obtain⟨a4,c4,rfl,hv'⟩:=hv;have H17a:=zh (H16a.out.call hc hp (framed_Names vs (.slice a4 vs.length c4)) ⟨_,_,rfl,hv'⟩);clear hc hp hv';have hb17:=H17a.out.blk;have f4:=hb17.frozen 4;have e4:=hb17.cell 4 _ rfl;obtain⟨w17b,hw17⟩ : ∃ w17b,w17b=w17.setCell ⟨w.heap.size + 1,4,none⟩ (.slice a4 vs.length c4):=⟨_,rfl⟩
        have H17b:=zh (H17a.out.store 4 (.slice a4 vs.length c4));simp only [Array.setIfInBounds] at H17b;rw [← hw17] at H17b;clear hb17;have K17:=zh (must_any [59] _ B bp bt z r16 H17b.out.par);cases hx : must z [59] r16 with
        | bad en q=>
         have HRR:=zh (show proc z ts = .bad en q by rw [proc];simp only [HXK1.out,HXKNm.out,HXK4.out,HP5.out,HXK15.out,locals,HIv.out,if_true,HXKN.out,hx]);rw [hx] at K17;clear hx;go_wp2_with fail;rw [← hw17];refine K17.out.mono ?_;intro e w9 he;have HEE:=zh he;obtain⟨b9,rfl⟩:=he.thrown;clear he;go_wp2_with fail;refine⟨rfl,?_⟩;rw [HRR.out];exact HEE.out.relay (H17b.out.chg)
        | ok aK rK=>
         have HXK17:=zh hx;rw [hx] at K17;clear hx;go_wp2_with fail;rw [← hw17];obtain⟨r17,rfl⟩ : ∃ r17,r17=rK:=⟨rK,rfl⟩
         refine K17.out.mono ?_;rintro _ w17 ⟨hc,_,rfl,rfl,hp⟩;have H17:=zh (H17b.out.step hc hp);clear hc hp;clear f4 e4 hw17;obtain⟨r6,hr6⟩ : ∃ r6,r6=r17:=⟨_,rfl⟩
         subst hr6;have K18:=zh (must_any [98,101,103,105,110] _ B bp bt z r6 H17.out.par);cases hx : must z [98,101,103,105,110] r6 with
         | bad en q=>
          have HRR:=zh (show proc z ts = .bad en q by rw [proc];simp only [HXK1.out,HXKNm.out,HXK4.out,HP5.out,HXK15.out,locals,HIv.out,if_true,HXKN.out,HXK17.out,block,hx]);rw [hx] at K18;clear hx;go_wp2_with fail;refine K18.out.mono ?_;intro e w9 he;have HEE:=zh he;obtain⟨b9,rfl⟩:=he.thrown;clear he;go_wp2_with fail;refine⟨rfl,?_⟩;rw [HRR.out];exact HEE.out.relay (H17.out.chg)
         | ok aK rK=>
          have HXK18:=zh hx;rw [hx] at K18;clear hx;go_wp2_with fail;obtain⟨r18,rfl⟩ : ∃ r18,r18=rK:=⟨rK,rfl⟩
          refine K18.out.mono ?_;rintro _ w18 ⟨hc,_,rfl,rfl,hp⟩;have H18:=zh (H17.out.step hc hp);clear hc hp;have KB:=zh (body0_any w18 B bp bt z r18 H18.out.par);cases hx : body0 z r18 with
          | bad en q=>
           have HRR:=zh (show proc z ts = .bad en q by rw [proc];simp only [HXK1.out,HXKNm.out,HXK4.out,HP5.out,HXK15.out,locals,HIv.out,if_true,HXKN.out,HXK17.out,block,HXK18.out,hx]);rw [hx] at KB;clear hx;go_wp2_with fail;refine KB.out.mono ?_;intro e w9 he;have HEE:=zh he;obtain⟨b9,rfl⟩:=he.thrown;clear he;go_wp2_with fail;refine⟨rfl,?_⟩;rw [HRR.out];exact HEE.out.relay (H18.out.chg)
          | ok aK rK=>
           have HXKB:=zh hx;rw [hx] at KB;clear hx;go_wp2_with fail;obtain⟨b,rfl⟩ : ∃ b,b=aK:=⟨aK,rfl⟩
           obtain⟨r19,rfl⟩ : ∃ r19,r19=rK:=⟨rK,rfl⟩
           refine KB.out.mono ?_;rintro _ w19 ⟨hc,_,rfl,hv,hp⟩;obtain⟨a5,c5,cs5,rfl,hv'⟩:=hv;have H19a:=zh (H18.out.call hc hp (framed_Sl b (.slice a5 b.len c5)) ⟨_,_,_,rfl,hv'⟩);clear hc hp hv';have hb19:=H19a.out.blk;have f5:=hb19.frozen 5;have e5:=hb19.cell 5 _ rfl;obtain⟨w19b,hw19⟩ : ∃ w19b,w19b=w19.setCell ⟨w.heap.size + 1,5,none⟩ (.slice a5 b.len c5):=⟨_,rfl⟩
           have H19:=zh (H19a.out.store 5 (.slice a5 b.len c5));simp only [Array.setIfInBounds] at H19;rw [← hw19] at H19;clear hb19;have K20:=zh (must_any [101,110,100] _ B bp bt z r19 H19.out.par);cases hx : must z [101,110,100] r19 with
           | bad en q=>
            have HRR:=zh (show proc z ts = .bad en q by rw [proc];simp only [HXK1.out,HXKNm.out,HXK4.out,HP5.out,HXK15.out,locals,HIv.out,if_true,HXKN.out,HXK17.out,block,HXK18.out,HXKB.out,hx]);rw [hx] at K20;clear hx;go_wp2_with fail;rw [← hw19];refine K20.out.mono ?_;intro e w9 he;have HEE:=zh he;obtain⟨b9,rfl⟩:=he.thrown;clear he;go_wp2_with fail;refine⟨rfl,?_⟩;rw [HRR.out];exact HEE.out.relay (H19.out.chg)
           | ok aK rK=>
            have HXK20:=zh hx;rw [hx] at K20;clear hx;go_wp2_with fail;rw [← hw19];obtain⟨r20,rfl⟩ : ∃ r20,r20=rK:=⟨rK,rfl⟩
            refine K20.out.mono ?_;rintro _ w20 ⟨hc,_,rfl,rfl,hp⟩;have H20:=zh (H19.out.step hc hp);clear hc hp;clear f5 e5 hw19;have K21:=zh (must_any [59] _ B bp bt z r20 H20.out.par);cases hx : must z [59] r20 with
            | bad en q=>
             have HRR:=zh (show proc z ts = .bad en q by rw [proc];simp only [HXK1.out,HXKNm.out,HXK4.out,HP5.out,HXK15.out,locals,HIv.out,if_true,HXKN.out,HXK17.out,block,HXK18.out,HXKB.out,HXK20.out,hx]);rw [hx] at K21;clear hx;go_wp2_with fail;refine K21.out.mono ?_;intro e w9 he;have HEE:=zh he;obtain⟨b9,rfl⟩:=he.thrown;clear he;go_wp2_with fail;refine⟨rfl,?_⟩;rw [HRR.out];exact HEE.out.relay (H20.out.chg)
            | ok aK rK=>
             have HXK21:=zh hx;rw [hx] at K21;clear hx;go_wp2_with fail;obtain⟨r21,rfl⟩ : ∃ r21,r21=rK:=⟨rK,rfl⟩
             refine K21.out.mono ?_;rintro _ w21 ⟨hc,_,rfl,rfl,hp⟩;have H21:=zh (H20.out.step hc hp);clear hc hp;have HRR:=zh (show proc z ts = .ok ⟨n,hd z ts,see [42] r2,([] : List (List UInt8)),vs,b⟩ r21 by rw [proc];simp only [HXK1.out,HXKNm.out,HXK4.out,HP5.out,HXK15.out,locals,HIv.out,if_true,HXKN.out,HXK17.out,block,HXK18.out,HXKB.out,HXK20.out,HXK21.out]);have HD:=zh (H21.out);have hbE:=H21.out.blk;have hrE:=H21.out.res;have d0:=hbE.cell 0 _ rfl;have d1:=hbE.cell 1 _ rfl;have d2:=hbE.cell 2 _ rfl;have d3:=hbE.cell 3 _ rfl;have d4:=hbE.cell 4 _ rfl;have d5:=hbE.cell 5 _ rfl;have e0:=hrE.cell 0 _ rfl;have e1:=hrE.cell 1 _ rfl;have e2:=hrE.cell 2 _ rfl;have e3:=hrE.cell 3 _ rfl;have e4:=hrE.cell 4 _ rfl;have e5:=hrE.cell 5 _ rfl;have f0:=hrE.frozen 0;have f1:=hrE.frozen 1;have f2:=hrE.frozen 2;have f3:=hrE.frozen 3;have f4:=hrE.frozen 4;have f5:=hrE.frozen 5;clear hbE hrE;go_wp2_with fail;obtain⟨wF,hwF,hcF,hbF⟩:=set6 (str n) (.int .i64 (hd z ts)) (.bool (see [42] r2)) (nils) ((.slice a4 vs.length c4)) ((.slice a5 b.len c5)) HD.out.res;rw [hwF];clear hwF;have g0:=hbF.cell 0 (str n) rfl;have g1:=hbF.cell 1 (.int .i64 (hd z ts)) rfl;have g2:=hbF.cell 2 (.bool (see [42] r2)) rfl;have g3:=hbF.cell 3 (nils) rfl;have g4:=hbF.cell 4 ((.slice a4 vs.length c4)) rfl;have g5:=hbF.cell 5 ((.slice a5 b.len c5)) rfl;refine bodyPost_ret (v:=.agg #[str n,.int .i64 (hd z ts),.bool (see [42] r2),nils,(.slice a4 vs.length c4),(.slice a5 b.len c5)]) (by simp [results,Tryz.results75,go_sem,g0,g1,g2,g3,g4,g5]) rfl ?_;rw [HRR.out];have hq:=HD.out.fin hcF;exact⟨HD.out.chg.trans hcF (fun x hx=>.inr (by simp at hx;omega)),_,rfl,⟨_,rfl,_,_,_,rfl,hq.1.1.2,hq.1.2,hq.2⟩,HD.out.par.kept hcF (fun x hx=>by simp at hx;omega) (by simp;omega) (by simp;omega)⟩
      | false=>
       have HIv:=zh hk;clear hk;go_wp2_with fail;refine KT.out.mono ?_;rintro _ w16 ⟨rfl,_,_,hw⟩;rw [HIv.out];have hw':=(hw HIv.out).symm;subst hw';clear hw h3;obtain⟨r6,hr6⟩ : ∃ r6,r6=r15:=⟨_,rfl⟩
       subst hr6;have H16:=zh (H15.out.add (framed_Names [] nils) NamesAt.nil);have K18:=zh (must_any [98,101,103,105,110] _ B bp bt z r6 H16.out.par);cases hx : must z [98,101,103,105,110] r6 with
       | bad en q=>
        have HRR:=zh (show proc z ts = .bad en q by rw [proc];simp only [HXK1.out,HXKNm.out,HXK4.out,HP5.out,HXK15.out,locals,HIv.out,Bool.false_eq_true,if_false,block,hx]);rw [hx] at K18;clear hx;go_wp2_with fail;refine K18.out.mono ?_;intro e w9 he;have HEE:=zh he;obtain⟨b9,rfl⟩:=he.thrown;clear he;go_wp2_with fail;refine⟨rfl,?_⟩;rw [HRR.out];exact HEE.out.relay (H16.out.chg)
       | ok aK rK=>
        have HXK18:=zh hx;rw [hx] at K18;clear hx;go_wp2_with fail;obtain⟨r18,rfl⟩ : ∃ r18,r18=rK:=⟨rK,rfl⟩
        refine K18.out.mono ?_;rintro _ w18 ⟨hc,_,rfl,rfl,hp⟩;have H18:=zh (H16.out.step hc hp);clear hc hp;have KB:=zh (body0_any w18 B bp bt z r18 H18.out.par);cases hx : body0 z r18 with
        | bad en q=>
         have HRR:=zh (show proc z ts = .bad en q by rw [proc];simp only [HXK1.out,HXKNm.out,HXK4.out,HP5.out,HXK15.out,locals,HIv.out,Bool.false_eq_true,if_false,block,HXK18.out,hx]);rw [hx] at KB;clear hx;go_wp2_with fail;refine KB.out.mono ?_;intro e w9 he;have HEE:=zh he;obtain⟨b9,rfl⟩:=he.thrown;clear he;go_wp2_with fail;refine⟨rfl,?_⟩;rw [HRR.out];exact HEE.out.relay (H18.out.chg)
        | ok aK rK=>
         have HXKB:=zh hx;rw [hx] at KB;clear hx;go_wp2_with fail;obtain⟨b,rfl⟩ : ∃ b,b=aK:=⟨aK,rfl⟩
         obtain⟨r19,rfl⟩ : ∃ r19,r19=rK:=⟨rK,rfl⟩
         refine KB.out.mono ?_;rintro _ w19 ⟨hc,_,rfl,hv,hp⟩;obtain⟨a5,c5,cs5,rfl,hv'⟩:=hv;have H19a:=zh (H18.out.call hc hp (framed_Sl b (.slice a5 b.len c5)) ⟨_,_,_,rfl,hv'⟩);clear hc hp hv';have hb19:=H19a.out.blk;have f5:=hb19.frozen 5;have e5:=hb19.cell 5 _ rfl;obtain⟨w19b,hw19⟩ : ∃ w19b,w19b=w19.setCell ⟨w.heap.size + 1,5,none⟩ (.slice a5 b.len c5):=⟨_,rfl⟩
         have H19:=zh (H19a.out.store 5 (.slice a5 b.len c5));simp only [Array.setIfInBounds] at H19;rw [← hw19] at H19;clear hb19;have K20:=zh (must_any [101,110,100] _ B bp bt z r19 H19.out.par);cases hx : must z [101,110,100] r19 with
         | bad en q=>
          have HRR:=zh (show proc z ts = .bad en q by rw [proc];simp only [HXK1.out,HXKNm.out,HXK4.out,HP5.out,HXK15.out,locals,HIv.out,Bool.false_eq_true,if_false,block,HXK18.out,HXKB.out,hx]);rw [hx] at K20;clear hx;go_wp2_with fail;rw [← hw19];refine K20.out.mono ?_;intro e w9 he;have HEE:=zh he;obtain⟨b9,rfl⟩:=he.thrown;clear he;go_wp2_with fail;refine⟨rfl,?_⟩;rw [HRR.out];exact HEE.out.relay (H19.out.chg)
         | ok aK rK=>
          have HXK20:=zh hx;rw [hx] at K20;clear hx;go_wp2_with fail;rw [← hw19];obtain⟨r20,rfl⟩ : ∃ r20,r20=rK:=⟨rK,rfl⟩
          refine K20.out.mono ?_;rintro _ w20 ⟨hc,_,rfl,rfl,hp⟩;have H20:=zh (H19.out.step hc hp);clear hc hp;clear f5 e5 hw19;have K21:=zh (must_any [59] _ B bp bt z r20 H20.out.par);cases hx : must z [59] r20 with
          | bad en q=>
           have HRR:=zh (show proc z ts = .bad en q by rw [proc];simp only [HXK1.out,HXKNm.out,HXK4.out,HP5.out,HXK15.out,locals,HIv.out,Bool.false_eq_true,if_false,block,HXK18.out,HXKB.out,HXK20.out,hx]);rw [hx] at K21;clear hx;go_wp2_with fail;refine K21.out.mono ?_;intro e w9 he;have HEE:=zh he;obtain⟨b9,rfl⟩:=he.thrown;clear he;go_wp2_with fail;refine⟨rfl,?_⟩;rw [HRR.out];exact HEE.out.relay (H20.out.chg)
          | ok aK rK=>
           have HXK21:=zh hx;rw [hx] at K21;clear hx;go_wp2_with fail;obtain⟨r21,rfl⟩ : ∃ r21,r21=rK:=⟨rK,rfl⟩
           refine K21.out.mono ?_;rintro _ w21 ⟨hc,_,rfl,rfl,hp⟩;have H21:=zh (H20.out.step hc hp);clear hc hp;have HRR:=zh (show proc z ts = .ok ⟨n,hd z ts,see [42] r2,([] : List (List UInt8)),([] : List (List UInt8)),b⟩ r21 by rw [proc];simp only [HXK1.out,HXKNm.out,HXK4.out,HP5.out,HXK15.out,locals,HIv.out,Bool.false_eq_true,if_false,block,HXK18.out,HXKB.out,HXK20.out,HXK21.out]);have HD:=zh (H21.out);have hbE:=H21.out.blk;have hrE:=H21.out.res;have d0:=hbE.cell 0 _ rfl;have d1:=hbE.cell 1 _ rfl;have d2:=hbE.cell 2 _ rfl;have d3:=hbE.cell 3 _ rfl;have d4:=hbE.cell 4 _ rfl;have d5:=hbE.cell 5 _ rfl;have e0:=hrE.cell 0 _ rfl;have e1:=hrE.cell 1 _ rfl;have e2:=hrE.cell 2 _ rfl;have e3:=hrE.cell 3 _ rfl;have e4:=hrE.cell 4 _ rfl;have e5:=hrE.cell 5 _ rfl;have f0:=hrE.frozen 0;have f1:=hrE.frozen 1;have f2:=hrE.frozen 2;have f3:=hrE.frozen 3;have f4:=hrE.frozen 4;have f5:=hrE.frozen 5;clear hbE hrE;go_wp2_with fail;obtain⟨wF,hwF,hcF,hbF⟩:=set6 (str n) (.int .i64 (hd z ts)) (.bool (see [42] r2)) (nils) (nils) ((.slice a5 b.len c5)) HD.out.res;rw [hwF];clear hwF;have g0:=hbF.cell 0 (str n) rfl;have g1:=hbF.cell 1 (.int .i64 (hd z ts)) rfl;have g2:=hbF.cell 2 (.bool (see [42] r2)) rfl;have g3:=hbF.cell 3 (nils) rfl;have g4:=hbF.cell 4 (nils) rfl;have g5:=hbF.cell 5 ((.slice a5 b.len c5)) rfl;refine bodyPost_ret (v:=.agg #[str n,.int .i64 (hd z ts),.bool (see [42] r2),nils,nils,(.slice a5 b.len c5)]) (by simp [results,Tryz.results75,go_sem,g0,g1,g2,g3,g4,g5]) rfl ?_;rw [HRR.out];have hq:=HD.out.fin hcF;exact⟨HD.out.chg.trans hcF (fun x hx=>.inr (by simp at hx;omega)),_,rfl,⟨_,rfl,_,_,_,rfl,hq.1.1.2,hq.1.2,hq.2⟩,HD.out.par.kept hcF (fun x hx=>by simp at hx;omega) (by simp;omega) (by simp;omega)⟩
    | false=>
     have HI1:=zh hk;clear hk;go_wp2_with fail;refine KT1.out.mono ?_;rintro _ w5 ⟨rfl,_,_,hw⟩;rw [HI1.out];have hw':=(hw HI1.out).symm;subst hw';clear hw;have KP:=zh (names_any 10 (by omega) w4 B bp bt z r3 H4.out.par);cases hx : names z 10 r3 with
     | bad en q=>
      have HRR:=zh (show proc z ts = .bad en q by rw [proc];simp only [HXK1.out,HXKNm.out,HXK4.out,params,HI1.out,Bool.false_eq_true,if_false,hx]);rw [hx] at KP;clear hx;go_wp2_with fail;refine KP.out.mono ?_;intro e w9 he;have HEE:=zh he;obtain⟨b9,rfl⟩:=he.thrown;clear he;go_wp2_with fail;refine⟨rfl,?_⟩;rw [HRR.out];exact HEE.out.relay (H4.out.chg)
     | ok aK rK=>
      have HXKP:=zh hx;rw [hx] at KP;clear hx;go_wp2_with fail;obtain⟨ps,rfl⟩ : ∃ ps,ps=aK:=⟨aK,rfl⟩
      obtain⟨r5,rfl⟩ : ∃ r5,r5=rK:=⟨rK,rfl⟩
      have hps : ps.length≤10:=names_most HXKP.out;refine KP.out.mono ?_;rintro _ w6 ⟨hc,_,rfl,hv,hp⟩;obtain⟨a3,c3,rfl,hac3,hv'⟩:=hv;have H6a:=zh (H4.out.call hc hp (framed_Names ps (.slice a3 ps.length c3)) ⟨_,_,rfl,hac3,hv'⟩);clear hc hp hv';have hb6:=H6a.out.blk;have f3:=hb6.frozen 3;have e3:=hb6.cell 3 _ rfl;obtain⟨w6b,hw6⟩ : ∃ w6b,w6b=w6.setCell ⟨w.heap.size + 1,3,none⟩ (.slice a3 ps.length c3):=⟨_,rfl⟩
      have H6:=zh (H6a.out.store 3 (.slice a3 ps.length c3));simp only [Array.setIfInBounds] at H6;rw [← hw6] at H6;clear hb6;have K7:=zh (must_any [41] _ B bp bt z r5 H6.out.par);cases hx : must z [41] r5 with
      | bad en q=>
       have HRR:=zh (show proc z ts = .bad en q by rw [proc];simp only [HXK1.out,HXKNm.out,HXK4.out,params,HI1.out,Bool.false_eq_true,if_false,HXKP.out,hx]);rw [hx] at K7;clear hx;go_wp2_with fail;rw [← hw6];refine K7.out.mono ?_;intro e w9 he;have HEE:=zh he;obtain⟨b9,rfl⟩:=he.thrown;clear he;go_wp2_with fail;refine⟨rfl,?_⟩;rw [HRR.out];exact HEE.out.relay (H6.out.chg)
      | ok aK rK=>
       have HXK7:=zh hx;rw [hx] at K7;clear hx;go_wp2_with fail;rw [← hw6];obtain⟨r7,rfl⟩ : ∃ r7,r7=rK:=⟨rK,rfl⟩
       refine K7.out.mono ?_;rintro _ w7 ⟨hc,_,rfl,rfl,hp⟩;have H7:=zh (H6.out.step hc hp);clear hc hp;clear f3 e3 hw6;obtain⟨r4,hr4⟩ : ∃ r4,r4=r7:=⟨_,rfl⟩
       subst hr4;have HP5:=zh (show params z r3 = .ok ps r4 by simp only [params,HI1.out,Bool.false_eq_true,if_false,HXKP.out,HXK7.out]);have K15:=zh (must_any [59] _ B bp bt z r4 H7.out.par);cases hx : must z [59] r4 with
       | bad en q=>
        have HRR:=zh (show proc z ts = .bad en q by rw [proc];simp only [HXK1.out,HXKNm.out,HXK4.out,HP5.out,hx]);rw [hx] at K15;clear hx;go_wp2_with fail;refine K15.out.mono ?_;intro e w9 he;have HEE:=zh he;obtain⟨b9,rfl⟩:=he.thrown;clear he;go_wp2_with fail;refine⟨rfl,?_⟩;rw [HRR.out];exact HEE.out.relay (H7.out.chg)
       | ok aK rK=>
        have HXK15:=zh hx;rw [hx] at K15;clear hx;go_wp2_with fail;obtain⟨r15,rfl⟩ : ∃ r15,r15=rK:=⟨rK,rfl⟩
        refine K15.out.mono ?_;rintro _ w15 ⟨hc,_,rfl,rfl,hp⟩;have H15:=zh (H7.out.step hc hp);clear hc hp;have KT:=zh (take_any [118,97,114] w15 B bp bt z r15 H15.out.par);have h3:=H15.out.blk.cell 3 _ rfl;cases hk : see [118,97,114] r15 with
        | true=>
         have HIv:=zh hk;clear hk;go_wp2_with fail;refine KT.out.mono ?_;rintro _ w16 ⟨rfl,hp,hc,_⟩;rw [HIv.out];rw [skip,HIv.out,if_pos rfl] at hp;have H16a:=zh (H15.out.step hc hp);clear hc hp h3;have h3:=H16a.out.blk.cell 3 _ rfl;have hsub:=sub_wrap hps;have KN:=zh (names_any (10 - ps.length) (by omega) w16 B bp bt z r15.tail H16a.out.par);cases hx : names z (10 - ps.length) r15.tail with
         | bad en q=>
          have HRR:=zh (show proc z ts = .bad en q by rw [proc];simp only [HXK1.out,HXKNm.out,HXK4.out,HP5.out,HXK15.out,locals,HIv.out,if_true,hx]);rw [hx] at KN;clear hx;go_wp2_with fail;refine KN.out.mono ?_;intro e w9 he;have HEE:=zh he;obtain⟨b9,rfl⟩:=he.thrown;clear he;go_wp2_with fail;refine⟨rfl,?_⟩;rw [HRR.out];exact HEE.out.relay (H16a.out.chg)
         | ok aK rK=>
          have HXKN:=zh hx;rw [hx] at KN;clear hx;go_wp2_with fail;obtain⟨vs,rfl⟩ : ∃ vs,vs=aK:=⟨aK,rfl⟩
          obtain⟨r16,rfl⟩ : ∃ r16,r16=rK:=⟨rK,rfl⟩
          refine KN.out.mono ?_;rintro _ w17 ⟨hc,_,rfl,hv,hp⟩;obtain⟨a4,c4,rfl,hv'⟩:=hv;have H17a:=zh (H16a.out.call hc hp (framed_Names vs (.slice a4 vs.length c4)) ⟨_,_,rfl,hv'⟩);clear hc hp hv';have hb17:=H17a.out.blk;have f4:=hb17.frozen 4;have e4:=hb17.cell 4 _ rfl;obtain⟨w17b,hw17⟩ : ∃ w17b,w17b=w17.setCell ⟨w.heap.size + 1,4,none⟩ (.slice a4 vs.length c4):=⟨_,rfl⟩
          have H17b:=zh (H17a.out.store 4 (.slice a4 vs.length c4));simp only [Array.setIfInBounds] at H17b;rw [← hw17] at H17b;clear hb17;have K17:=zh (must_any [59] _ B bp bt z r16 H17b.out.par);cases hx : must z [59] r16 with
          | bad en q=>
           have HRR:=zh (show proc z ts = .bad en q by rw [proc];simp only [HXK1.out,HXKNm.out,HXK4.out,HP5.out,HXK15.out,locals,HIv.out,if_true,HXKN.out,hx]);rw [hx] at K17;clear hx;go_wp2_with fail;rw [← hw17];refine K17.out.mono ?_;intro e w9 he;have HEE:=zh he;obtain⟨b9,rfl⟩:=he.thrown;clear he;go_wp2_with fail;refine⟨rfl,?_⟩;rw [HRR.out];exact HEE.out.relay (H17b.out.chg)
          | ok aK rK=>
           have HXK17:=zh hx;rw [hx] at K17;clear hx;go_wp2_with fail;rw [← hw17];obtain⟨r17,rfl⟩ : ∃ r17,r17=rK:=⟨rK,rfl⟩
           refine K17.out.mono ?_;rintro _ w17 ⟨hc,_,rfl,rfl,hp⟩;have H17:=zh (H17b.out.step hc hp);clear hc hp;clear f4 e4 hw17;obtain⟨r6,hr6⟩ : ∃ r6,r6=r17:=⟨_,rfl⟩
           subst hr6;have K18:=zh (must_any [98,101,103,105,110] _ B bp bt z r6 H17.out.par);cases hx : must z [98,101,103,105,110] r6 with
           | bad en q=>
            have HRR:=zh (show proc z ts = .bad en q by rw [proc];simp only [HXK1.out,HXKNm.out,HXK4.out,HP5.out,HXK15.out,locals,HIv.out,if_true,HXKN.out,HXK17.out,block,hx]);rw [hx] at K18;clear hx;go_wp2_with fail;refine K18.out.mono ?_;intro e w9 he;have HEE:=zh he;obtain⟨b9,rfl⟩:=he.thrown;clear he;go_wp2_with fail;refine⟨rfl,?_⟩;rw [HRR.out];exact HEE.out.relay (H17.out.chg)
           | ok aK rK=>
            have HXK18:=zh hx;rw [hx] at K18;clear hx;go_wp2_with fail;obtain⟨r18,rfl⟩ : ∃ r18,r18=rK:=⟨rK,rfl⟩
            refine K18.out.mono ?_;rintro _ w18 ⟨hc,_,rfl,rfl,hp⟩;have H18:=zh (H17.out.step hc hp);clear hc hp;have KB:=zh (body0_any w18 B bp bt z r18 H18.out.par);cases hx : body0 z r18 with
            | bad en q=>
             have HRR:=zh (show proc z ts = .bad en q by rw [proc];simp only [HXK1.out,HXKNm.out,HXK4.out,HP5.out,HXK15.out,locals,HIv.out,if_true,HXKN.out,HXK17.out,block,HXK18.out,hx]);rw [hx] at KB;clear hx;go_wp2_with fail;refine KB.out.mono ?_;intro e w9 he;have HEE:=zh he;obtain⟨b9,rfl⟩:=he.thrown;clear he;go_wp2_with fail;refine⟨rfl,?_⟩;rw [HRR.out];exact HEE.out.relay (H18.out.chg)
            | ok aK rK=>
             have HXKB:=zh hx;rw [hx] at KB;clear hx;go_wp2_with fail;obtain⟨b,rfl⟩ : ∃ b,b=aK:=⟨aK,rfl⟩
             obtain⟨r19,rfl⟩ : ∃ r19,r19=rK:=⟨rK,rfl⟩
             refine KB.out.mono ?_;rintro _ w19 ⟨hc,_,rfl,hv,hp⟩;obtain⟨a5,c5,cs5,rfl,hv'⟩:=hv;have H19a:=zh (H18.out.call hc hp (framed_Sl b (.slice a5 b.len c5)) ⟨_,_,_,rfl,hv'⟩);clear hc hp hv';have hb19:=H19a.out.blk;have f5:=hb19.frozen 5;have e5:=hb19.cell 5 _ rfl;obtain⟨w19b,hw19⟩ : ∃ w19b,w19b=w19.setCell ⟨w.heap.size + 1,5,none⟩ (.slice a5 b.len c5):=⟨_,rfl⟩
             have H19:=zh (H19a.out.store 5 (.slice a5 b.len c5));simp only [Array.setIfInBounds] at H19;rw [← hw19] at H19;clear hb19;have K20:=zh (must_any [101,110,100] _ B bp bt z r19 H19.out.par);cases hx : must z [101,110,100] r19 with
             | bad en q=>
              have HRR:=zh (show proc z ts = .bad en q by rw [proc];simp only [HXK1.out,HXKNm.out,HXK4.out,HP5.out,HXK15.out,locals,HIv.out,if_true,HXKN.out,HXK17.out,block,HXK18.out,HXKB.out,hx]);rw [hx] at K20;clear hx;go_wp2_with fail;rw [← hw19];refine K20.out.mono ?_;intro e w9 he;have HEE:=zh he;obtain⟨b9,rfl⟩:=he.thrown;clear he;go_wp2_with fail;refine⟨rfl,?_⟩;rw [HRR.out];exact HEE.out.relay (H19.out.chg)
             | ok aK rK=>
              have HXK20:=zh hx;rw [hx] at K20;clear hx;go_wp2_with fail;rw [← hw19];obtain⟨r20,rfl⟩ : ∃ r20,r20=rK:=⟨rK,rfl⟩
              refine K20.out.mono ?_;rintro _ w20 ⟨hc,_,rfl,rfl,hp⟩;have H20:=zh (H19.out.step hc hp);clear hc hp;clear f5 e5 hw19;have K21:=zh (must_any [59] _ B bp bt z r20 H20.out.par);cases hx : must z [59] r20 with
              | bad en q=>
               have HRR:=zh (show proc z ts = .bad en q by rw [proc];simp only [HXK1.out,HXKNm.out,HXK4.out,HP5.out,HXK15.out,locals,HIv.out,if_true,HXKN.out,HXK17.out,block,HXK18.out,HXKB.out,HXK20.out,hx]);rw [hx] at K21;clear hx;go_wp2_with fail;refine K21.out.mono ?_;intro e w9 he;have HEE:=zh he;obtain⟨b9,rfl⟩:=he.thrown;clear he;go_wp2_with fail;refine⟨rfl,?_⟩;rw [HRR.out];exact HEE.out.relay (H20.out.chg)
              | ok aK rK=>
               have HXK21:=zh hx;rw [hx] at K21;clear hx;go_wp2_with fail;obtain⟨r21,rfl⟩ : ∃ r21,r21=rK:=⟨rK,rfl⟩
               refine K21.out.mono ?_;rintro _ w21 ⟨hc,_,rfl,rfl,hp⟩;have H21:=zh (H20.out.step hc hp);clear hc hp;have HRR:=zh (show proc z ts = .ok ⟨n,hd z ts,see [42] r2,ps,vs,b⟩ r21 by rw [proc];simp only [HXK1.out,HXKNm.out,HXK4.out,HP5.out,HXK15.out,locals,HIv.out,if_true,HXKN.out,HXK17.out,block,HXK18.out,HXKB.out,HXK20.out,HXK21.out]);have HD:=zh (H21.out);have hbE:=H21.out.blk;have hrE:=H21.out.res;have d0:=hbE.cell 0 _ rfl;have d1:=hbE.cell 1 _ rfl;have d2:=hbE.cell 2 _ rfl;have d3:=hbE.cell 3 _ rfl;have d4:=hbE.cell 4 _ rfl;have d5:=hbE.cell 5 _ rfl;have e0:=hrE.cell 0 _ rfl;have e1:=hrE.cell 1 _ rfl;have e2:=hrE.cell 2 _ rfl;have e3:=hrE.cell 3 _ rfl;have e4:=hrE.cell 4 _ rfl;have e5:=hrE.cell 5 _ rfl;have f0:=hrE.frozen 0;have f1:=hrE.frozen 1;have f2:=hrE.frozen 2;have f3:=hrE.frozen 3;have f4:=hrE.frozen 4;have f5:=hrE.frozen 5;clear hbE hrE;go_wp2_with fail;obtain⟨wF,hwF,hcF,hbF⟩:=set6 (str n) (.int .i64 (hd z ts)) (.bool (see [42] r2)) ((.slice a3 ps.length c3)) ((.slice a4 vs.length c4)) ((.slice a5 b.len c5)) HD.out.res;rw [hwF];clear hwF;have g0:=hbF.cell 0 (str n) rfl;have g1:=hbF.cell 1 (.int .i64 (hd z ts)) rfl;have g2:=hbF.cell 2 (.bool (see [42] r2)) rfl;have g3:=hbF.cell 3 ((.slice a3 ps.length c3)) rfl;have g4:=hbF.cell 4 ((.slice a4 vs.length c4)) rfl;have g5:=hbF.cell 5 ((.slice a5 b.len c5)) rfl;refine bodyPost_ret (v:=.agg #[str n,.int .i64 (hd z ts),.bool (see [42] r2),(.slice a3 ps.length c3),(.slice a4 vs.length c4),(.slice a5 b.len c5)]) (by simp [results,Tryz.results75,go_sem,g0,g1,g2,g3,g4,g5]) rfl ?_;rw [HRR.out];have hq:=HD.out.fin hcF;exact⟨HD.out.chg.trans hcF (fun x hx=>.inr (by simp at hx;omega)),_,rfl,⟨_,rfl,_,_,_,rfl,hq.1.1.2,hq.1.2,hq.2⟩,HD.out.par.kept hcF (fun x hx=>by simp at hx;omega) (by simp;omega) (by simp;omega)⟩
        | false=>
         have HIv:=zh hk;clear hk;go_wp2_with fail;refine KT.out.mono ?_;rintro _ w16 ⟨rfl,_,_,hw⟩;rw [HIv.out];have hw':=(hw HIv.out).symm;subst hw';clear hw h3;obtain⟨r6,hr6⟩ : ∃ r6,r6=r15:=⟨_,rfl⟩
         subst hr6;have H16:=zh (H15.out.add (framed_Names [] nils) NamesAt.nil);have K18:=zh (must_any [98,101,103,105,110] _ B bp bt z r6 H16.out.par);cases hx : must z [98,101,103,105,110] r6 with
         | bad en q=>
          have HRR:=zh (show proc z ts = .bad en q by rw [proc];simp only [HXK1.out,HXKNm.out,HXK4.out,HP5.out,HXK15.out,locals,HIv.out,Bool.false_eq_true,if_false,block,hx]);rw [hx] at K18;clear hx;go_wp2_with fail;refine K18.out.mono ?_;intro e w9 he;have HEE:=zh he;obtain⟨b9,rfl⟩:=he.thrown;clear he;go_wp2_with fail;refine⟨rfl,?_⟩;rw [HRR.out];exact HEE.out.relay (H16.out.chg)
         | ok aK rK=>
          have HXK18:=zh hx;rw [hx] at K18;clear hx;go_wp2_with fail;obtain⟨r18,rfl⟩ : ∃ r18,r18=rK:=⟨rK,rfl⟩
          refine K18.out.mono ?_;rintro _ w18 ⟨hc,_,rfl,rfl,hp⟩;have H18:=zh (H16.out.step hc hp);clear hc hp;have KB:=zh (body0_any w18 B bp bt z r18 H18.out.par);cases hx : body0 z r18 with
          | bad en q=>
           have HRR:=zh (show proc z ts = .bad en q by rw [proc];simp only [HXK1.out,HXKNm.out,HXK4.out,HP5.out,HXK15.out,locals,HIv.out,Bool.false_eq_true,if_false,block,HXK18.out,hx]);rw [hx] at KB;clear hx;go_wp2_with fail;refine KB.out.mono ?_;intro e w9 he;have HEE:=zh he;obtain⟨b9,rfl⟩:=he.thrown;clear he;go_wp2_with fail;refine⟨rfl,?_⟩;rw [HRR.out];exact HEE.out.relay (H18.out.chg)
          | ok aK rK=>
           have HXKB:=zh hx;rw [hx] at KB;clear hx;go_wp2_with fail;obtain⟨b,rfl⟩ : ∃ b,b=aK:=⟨aK,rfl⟩
           obtain⟨r19,rfl⟩ : ∃ r19,r19=rK:=⟨rK,rfl⟩
           refine KB.out.mono ?_;rintro _ w19 ⟨hc,_,rfl,hv,hp⟩;obtain⟨a5,c5,cs5,rfl,hv'⟩:=hv;have H19a:=zh (H18.out.call hc hp (framed_Sl b (.slice a5 b.len c5)) ⟨_,_,_,rfl,hv'⟩);clear hc hp hv';have hb19:=H19a.out.blk;have f5:=hb19.frozen 5;have e5:=hb19.cell 5 _ rfl;obtain⟨w19b,hw19⟩ : ∃ w19b,w19b=w19.setCell ⟨w.heap.size + 1,5,none⟩ (.slice a5 b.len c5):=⟨_,rfl⟩
           have H19:=zh (H19a.out.store 5 (.slice a5 b.len c5));simp only [Array.setIfInBounds] at H19;rw [← hw19] at H19;clear hb19;have K20:=zh (must_any [101,110,100] _ B bp bt z r19 H19.out.par);cases hx : must z [101,110,100] r19 with
           | bad en q=>
            have HRR:=zh (show proc z ts = .bad en q by rw [proc];simp only [HXK1.out,HXKNm.out,HXK4.out,HP5.out,HXK15.out,locals,HIv.out,Bool.false_eq_true,if_false,block,HXK18.out,HXKB.out,hx]);rw [hx] at K20;clear hx;go_wp2_with fail;rw [← hw19];refine K20.out.mono ?_;intro e w9 he;have HEE:=zh he;obtain⟨b9,rfl⟩:=he.thrown;clear he;go_wp2_with fail;refine⟨rfl,?_⟩;rw [HRR.out];exact HEE.out.relay (H19.out.chg)
           | ok aK rK=>
            have HXK20:=zh hx;rw [hx] at K20;clear hx;go_wp2_with fail;rw [← hw19];obtain⟨r20,rfl⟩ : ∃ r20,r20=rK:=⟨rK,rfl⟩
            refine K20.out.mono ?_;rintro _ w20 ⟨hc,_,rfl,rfl,hp⟩;have H20:=zh (H19.out.step hc hp);clear hc hp;clear f5 e5 hw19;have K21:=zh (must_any [59] _ B bp bt z r20 H20.out.par);cases hx : must z [59] r20 with
            | bad en q=>
             have HRR:=zh (show proc z ts = .bad en q by rw [proc];simp only [HXK1.out,HXKNm.out,HXK4.out,HP5.out,HXK15.out,locals,HIv.out,Bool.false_eq_true,if_false,block,HXK18.out,HXKB.out,HXK20.out,hx]);rw [hx] at K21;clear hx;go_wp2_with fail;refine K21.out.mono ?_;intro e w9 he;have HEE:=zh he;obtain⟨b9,rfl⟩:=he.thrown;clear he;go_wp2_with fail;refine⟨rfl,?_⟩;rw [HRR.out];exact HEE.out.relay (H20.out.chg)
            | ok aK rK=>
             have HXK21:=zh hx;rw [hx] at K21;clear hx;go_wp2_with fail;obtain⟨r21,rfl⟩ : ∃ r21,r21=rK:=⟨rK,rfl⟩
             refine K21.out.mono ?_;rintro _ w21 ⟨hc,_,rfl,rfl,hp⟩;have H21:=zh (H20.out.step hc hp);clear hc hp;have HRR:=zh (show proc z ts = .ok ⟨n,hd z ts,see [42] r2,ps,([] : List (List UInt8)),b⟩ r21 by rw [proc];simp only [HXK1.out,HXKNm.out,HXK4.out,HP5.out,HXK15.out,locals,HIv.out,Bool.false_eq_true,if_false,block,HXK18.out,HXKB.out,HXK20.out,HXK21.out]);have HD:=zh (H21.out);have hbE:=H21.out.blk;have hrE:=H21.out.res;have d0:=hbE.cell 0 _ rfl;have d1:=hbE.cell 1 _ rfl;have d2:=hbE.cell 2 _ rfl;have d3:=hbE.cell 3 _ rfl;have d4:=hbE.cell 4 _ rfl;have d5:=hbE.cell 5 _ rfl;have e0:=hrE.cell 0 _ rfl;have e1:=hrE.cell 1 _ rfl;have e2:=hrE.cell 2 _ rfl;have e3:=hrE.cell 3 _ rfl;have e4:=hrE.cell 4 _ rfl;have e5:=hrE.cell 5 _ rfl;have f0:=hrE.frozen 0;have f1:=hrE.frozen 1;have f2:=hrE.frozen 2;have f3:=hrE.frozen 3;have f4:=hrE.frozen 4;have f5:=hrE.frozen 5;clear hbE hrE;go_wp2_with fail;obtain⟨wF,hwF,hcF,hbF⟩:=set6 (str n) (.int .i64 (hd z ts)) (.bool (see [42] r2)) ((.slice a3 ps.length c3)) (nils) ((.slice a5 b.len c5)) HD.out.res;rw [hwF];clear hwF;have g0:=hbF.cell 0 (str n) rfl;have g1:=hbF.cell 1 (.int .i64 (hd z ts)) rfl;have g2:=hbF.cell 2 (.bool (see [42] r2)) rfl;have g3:=hbF.cell 3 ((.slice a3 ps.length c3)) rfl;have g4:=hbF.cell 4 (nils) rfl;have g5:=hbF.cell 5 ((.slice a5 b.len c5)) rfl;refine bodyPost_ret (v:=.agg #[str n,.int .i64 (hd z ts),.bool (see [42] r2),(.slice a3 ps.length c3),nils,(.slice a5 b.len c5)]) (by simp [results,Tryz.results75,go_sem,g0,g1,g2,g3,g4,g5]) rfl ?_;rw [HRR.out];have hq:=HD.out.fin hcF;exact⟨HD.out.chg.trans hcF (fun x hx=>.inr (by simp at hx;omega)),_,rfl,⟨_,rfl,_,_,_,rfl,hq.1.1.2,hq.1.2,hq.2⟩,HD.out.par.kept hcF (fun x hx=>by simp at hx;omega) (by simp;omega) (by simp;omega)⟩
end Go.Proofs.YtechofppmnnomaaGreatDoor
namespace Go.Mq.Tree
open Go Go.RowKit Go.Mq
theorem framed_Globs (l:List Glob) (v:Value):Framed (fun w F=>GlobsAt w F l v):=⟨fun hF h=>h.mono hF,fun hc hS h=>h.kept hc hS⟩
theorem framed_Procs (l:List Proc) (v:Value):Framed (fun w F=>ProcsAt w F l v):=⟨fun hF h=>h.mono hF,fun hc hS h=>h.kept hc hS⟩
theorem framed_Pr (x:Proc) (cs:List Value):Framed (fun w F=>PrAt w F x cs):=⟨fun hF h=>h.mono hF,fun hc hS h=>h.kept hc hS⟩
theorem Mk.loop {T:TypeId} {w wk w':World} {B bp bt z:Nat} {tk t':List Tok} {zs cs cs':Array Value} {Q:World→(Nat→Prop)→Prop} (h:Mk T w wk B bp bt z tk zs cs Q) (hc:Chg [bp,w.heap.size + 1] wk w') (hp:Par w' B bp bt z t') (hb:Blk w' (w.heap.size + 1) cs' T):Mk T w w' B bp bt z t' zs cs' Q:=
 ⟨h.fr,h.hbp,h.hbt,h.chg.trans hc (fun x hx=>by simp at hx;rcases hx with rfl|rfl;exact .inl (by simp);exact .inr (by omega)),hp,hb,h.res.kept hc (by have:=h.hbp;simp;omega),Nat.le_trans h.sz hc.size,
  h.fr.mono (fun x hx=>⟨hx.1,Nat.lt_of_lt_of_le hx.2 hc.size⟩) (h.fr.kept hc (fun x hx hn=>by have:=h.hbp;simp at hx;have:=hn.1;omega) h.q)⟩
theorem set5 {w:World} {b:Nat} (v0 v1 v2 v3 v4:Value) {u0 u1 u2 u3 u4:Value} {t:TypeId} (h:Blk w b #[u0,u1,u2,u3,u4] t) : ∃ wF,(((((w.setCell ⟨b,0,none⟩ v0).setCell ⟨b,1,none⟩ v1).setCell ⟨b,2,none⟩ v2).setCell ⟨b,3,none⟩ v3).setCell ⟨b,4,none⟩ v4)=wF∧Chg [b] w wF∧Blk wF b #[v0,v1,v2,v3,v4] t:=
 ⟨_,rfl,((((Chg.set1 _ _ _ _).then (Chg.set1 _ _ _ _)).then (Chg.set1 _ _ _ _)).then (Chg.set1 _ _ _ _)).then (Chg.set1 _ _ _ _),by
  have:=((((h.set 0 v0).set 1 v1).set 2 v2).set 3 v3).set 4 v4
  simpa using this⟩
end Go.Mq.Tree
namespace Go.Proofs.YtechofppmnnomaaGreatDoor
open Go Go.RowKit Go.Mq Go.Mq.Tree
set_option maxRecDepth 100000
set_option maxHeartbeats 16000000
theorem infoProc : (Tryz.prog.info? 72).map (fun i=>(i.zero,i.size,i.bytes))=some (some (.agg #[.string ⟨#[]⟩,.int .i64 0,.bool false,.slice none 0 0,.slice none 0 0,.slice none 0 0]),6,104):=by kernel_rfl
theorem module_any (w:World) (B bp bt z:Nat) (ts:List Tok) (h:Par w B bp bt z ts):Calls Tryz.prog 35 #[ptr bp] w (Ended w B bp bt z (module_ z ts) (fun w' m v=>ModAt w' (New w w') m v)):=by
 have hbp:=h.bp_lt;have hbt:=h.bt_lt;have hB0:=h.laid.le;have hBp:=h.bpB;have hw1 : (w.alloc (.cells #[str [],nils,nils,nils,nils] 32)).heap.size=w.heap.size + 1:=by simp
 obtain⟨w0,hw0⟩ : ∃ w0,w0=(w.alloc (.cells #[str [],nils,nils,nils,nils] 32)).alloc (.cells #[str [],nils,nils,nils,nils] 32):=⟨_,rfl⟩
 have hb0:=Blk.new (w.alloc (.cells #[str [],nils,nils,nils,nils] 32)) #[str [],nils,nils,nils,nils] 32;rw [hw1,← hw0] at hb0;have H0:Hid (Mk 32 w w0 B bp bt z ts #[str [],nils,nils,nils,nils] #[str [],nils,nils,nils,nils] (fun _ _=>True)):=zh (by
  refine⟨framed_true,hbp,hbt,?_,?_,hb0,?_,?_,trivial⟩
  ·rw [hw0];exact((Chg.refl _ _).alloc _).alloc _
  ·rw [hw0];exact h.kept (((Chg.refl [] w).alloc _).alloc _) (by simp) (by simp) (by simp)
  ·rw [hw0];exact(Blk.new w _ 32).kept ((Chg.refl [] _).alloc _) (by simp)
  ·rw [hw0];simp)
 clear h hb0 hw1
 go_enter Tryz.func35,Tryz.ntmps35
 go_wp2_with fail
 change Calls _ _ _ ((w.alloc (.cells #[str [],nils,nils,nils,nils] 32)).alloc (.cells #[str [],nils,nils,nils,nils] 32)) _
 rw [← hw0];clear hw0;have K1:=zh (must_any [109,111,100,117,108,101] _ B bp bt z ts H0.out.par);cases hx : must z [109,111,100,117,108,101] ts with
 | bad en q=>
  have HRR:=zh (show module_ z ts = .bad en q by rw [module_];simp only [hx]);rw [hx] at K1;clear hx;go_wp2_with fail;refine K1.out.mono ?_;intro e w9 he;have HEE:=zh he;obtain⟨b9,rfl⟩:=he.thrown;clear he;go_wp2_with fail;refine⟨rfl,?_⟩;rw [HRR.out];exact HEE.out.relay (H0.out.chg)
 | ok aK rK=>
  have HXK1:=zh hx;rw [hx] at K1;clear hx;go_wp2_with fail;obtain⟨r1,rfl⟩ : ∃ r1,r1=rK:=⟨rK,rfl⟩
  refine K1.out.mono ?_;rintro _ w1 ⟨hc,_,rfl,rfl,hp⟩;have H1:=zh (H0.out.step hc hp);clear hc hp;have KNm:=zh (name_any w1 B bp bt z r1 H1.out.par);cases hx : name z r1 with
  | bad en q=>
   have HRR:=zh (show module_ z ts = .bad en q by rw [module_];simp only [HXK1.out,hx]);rw [hx] at KNm;clear hx;go_wp2_with fail;refine KNm.out.mono ?_;intro e w9 he;have HEE:=zh he;obtain⟨b9,rfl⟩:=he.thrown;clear he;go_wp2_with fail;refine⟨rfl,?_⟩;rw [HRR.out];exact HEE.out.relay (H1.out.chg)
  | ok aK rK=>
   have HXKNm:=zh hx;rw [hx] at KNm;clear hx;go_wp2_with fail;obtain⟨n,rfl⟩ : ∃ n,n=aK:=⟨aK,rfl⟩
   obtain⟨r2,rfl⟩ : ∃ r2,r2=rK:=⟨rK,rfl⟩
   refine KNm.out.mono ?_;rintro _ w2 ⟨hc,_,rfl,rfl,hp⟩;have H2a:=zh (H1.out.step hc hp);clear hc hp;have hb2:=H2a.out.blk;have f0:=hb2.frozen 0;have e0:=hb2.cell 0 _ rfl;obtain⟨w2b,hw2⟩ : ∃ w2b,w2b=w2.setCell ⟨w.heap.size + 1,0,none⟩ (str n):=⟨_,rfl⟩
   have H2:=zh (H2a.out.store 0 (str n));simp only [Array.setIfInBounds] at H2;rw [← hw2] at H2;clear hb2;have K3:=zh (must_any [59] _ B bp bt z r2 H2.out.par);cases hx : must z [59] r2 with
   | bad en q=>
    have HRR:=zh (show module_ z ts = .bad en q by rw [module_];simp only [HXK1.out,HXKNm.out,hx]);rw [hx] at K3;clear hx;go_wp2_with fail;rw [← hw2];refine K3.out.mono ?_;intro e w9 he;have HEE:=zh he;obtain⟨b9,rfl⟩:=he.thrown;clear he;go_wp2_with fail;refine⟨rfl,?_⟩;rw [HRR.out];exact HEE.out.relay (H2.out.chg)
   | ok aK rK=>
    have HXK3:=zh hx;rw [hx] at K3;clear hx;go_wp2_with fail;rw [← hw2];obtain⟨r3,rfl⟩ : ∃ r3,r3=rK:=⟨rK,rfl⟩
    refine K3.out.mono ?_;rintro _ w3 ⟨hc,_,rfl,rfl,hp⟩;have H3:=zh (H2.out.step hc hp);clear hc hp;clear f0 e0 hw2;have KT1:=zh (take_any [105,109,112,111,114,116] w3 B bp bt z r3 H3.out.par);cases hk : see [105,109,112,111,114,116] r3 with
    | true=>
     have HI1:=zh hk;clear hk;go_wp2_with fail;refine KT1.out.mono ?_;rintro _ w4 ⟨rfl,hp,hc,_⟩;rw [HI1.out];rw [skip,HI1.out,if_pos rfl] at hp;have H4:=zh (H3.out.step hc hp);clear hc hp;have KP:=zh (names_any 6 (by omega) w4 B bp bt z r3.tail H4.out.par);cases hx : names z 6 r3.tail with
     | bad en q=>
      have HRR:=zh (show module_ z ts = .bad en q by rw [module_];simp only [HXK1.out,HXKNm.out,HXK3.out,imports,HI1.out,if_true,hx]);rw [hx] at KP;clear hx;go_wp2_with fail;refine KP.out.mono ?_;intro e w9 he;have HEE:=zh he;obtain⟨b9,rfl⟩:=he.thrown;clear he;go_wp2_with fail;refine⟨rfl,?_⟩;rw [HRR.out];exact HEE.out.relay (H4.out.chg)
     | ok aK rK=>
      have HXKP:=zh hx;rw [hx] at KP;clear hx;go_wp2_with fail;obtain⟨ims,rfl⟩ : ∃ ims,ims=aK:=⟨aK,rfl⟩
      obtain⟨r5a,rfl⟩ : ∃ r5a,r5a=rK:=⟨rK,rfl⟩
      refine KP.out.mono ?_;rintro _ w5 ⟨hc,_,rfl,hv,hp⟩;obtain⟨a3,c3,rfl,hac3,hv'⟩:=hv;have H5a:=zh (H4.out.call hc hp (framed_Names ims (.slice a3 ims.length c3)) ⟨_,_,rfl,hac3,hv'⟩);clear hc hp hv';have hb5:=H5a.out.blk;have f1:=hb5.frozen 1;have e1:=hb5.cell 1 _ rfl;obtain⟨w5b,hw5⟩ : ∃ w5b,w5b=w5.setCell ⟨w.heap.size + 1,1,none⟩ (.slice a3 ims.length c3):=⟨_,rfl⟩
      have H5:=zh (H5a.out.store 1 (.slice a3 ims.length c3));simp only [Array.setIfInBounds] at H5;rw [← hw5] at H5;clear hb5;have K6:=zh (must_any [59] _ B bp bt z r5a H5.out.par);cases hx : must z [59] r5a with
      | bad en q=>
       have HRR:=zh (show module_ z ts = .bad en q by rw [module_];simp only [HXK1.out,HXKNm.out,HXK3.out,imports,HI1.out,if_true,HXKP.out,hx]);rw [hx] at K6;clear hx;go_wp2_with fail;rw [← hw5];refine K6.out.mono ?_;intro e w9 he;have HEE:=zh he;obtain⟨b9,rfl⟩:=he.thrown;clear he;go_wp2_with fail;refine⟨rfl,?_⟩;rw [HRR.out];exact HEE.out.relay (H5.out.chg)
      | ok aK rK=>
       have HXK6:=zh hx;rw [hx] at K6;clear hx;go_wp2_with fail;rw [← hw5];obtain⟨r6,rfl⟩ : ∃ r6,r6=rK:=⟨rK,rfl⟩
       refine K6.out.mono ?_;rintro _ w6 ⟨hc,_,rfl,rfl,hp⟩;have H6:=zh (H5.out.step hc hp);clear hc hp;clear f1 e1 hw5;have HIM:=zh (show imports z r3 = .ok ims r6 by simp only [imports,HI1.out,if_true,HXKP.out,HXK6.out]);obtain⟨r4,hr4⟩ : ∃ r4,r4=r6:=⟨_,rfl⟩
       subst hr4;have KV:=zh (vars_any w6 B bp bt z r4 H6.out.par);cases hx : varsL z 11 [] r4 with
       | bad en q=>
        have HRR:=zh (show module_ z ts = .bad en q by rw [module_];simp only [HXK1.out,HXKNm.out,HXK3.out,HIM.out,hx]);rw [hx] at KV;clear hx;go_wp2_with fail;refine KV.out.mono ?_;intro e w9 he;have HEE:=zh he;obtain⟨b9,rfl⟩:=he.thrown;clear he;go_wp2_with fail;refine⟨rfl,?_⟩;rw [HRR.out];exact HEE.out.relay (H6.out.chg)
       | ok aK rK=>
        have HXKV:=zh hx;rw [hx] at KV;clear hx;go_wp2_with fail;obtain⟨gs,rfl⟩ : ∃ gs,gs=aK:=⟨aK,rfl⟩
        obtain⟨r5,rfl⟩ : ∃ r5,r5=rK:=⟨rK,rfl⟩
        refine KV.out.mono ?_;rintro _ w7 ⟨hc,_,rfl,hv,hp⟩;obtain⟨a7,c7,rfl,hv'⟩:=hv;have H7a:=zh (H6.out.call hc hp (framed_Globs gs (.slice a7 gs.length c7)) ⟨_,_,rfl,hv'⟩);clear hc hp hv';have hb7:=H7a.out.blk;have f2:=hb7.frozen 2;have e2:=hb7.cell 2 _ rfl;obtain⟨w8,hw8⟩ : ∃ w8,w8=w7.setCell ⟨w.heap.size + 1,2,none⟩ (.slice a7 gs.length c7):=⟨_,rfl⟩
        have H8:=zh (H7a.out.store 2 (.slice a7 gs.length c7));simp only [Array.setIfInBounds] at H8;rw [← hw8] at H8;clear hb7;go_wp2_with fail;rw [← hw8];clear f2 e2 hw8
        go_loopw [] (fun wr=>∃ (f:Nat) (acc:List Proc) (cs:List Value) (l:Value) (ts':List Tok),procsL z 11 [] r5=procsL z f acc ts'∧f + acc.length=11∧acc.length≤10∧Chg [bp,w.heap.size + 1] w8 wr∧Par wr B bp bt z ts' ∧
          Blk wr (w.heap.size + 1) #[str n,(.slice a3 ims.length c3),(.slice a7 gs.length c7),l,nils] 32∧wr.ownsRow 0 72 6 l acc.length cs∧PrsAt wr (Off w8 wr l) acc cs∧From w8.heap.size l) (fun wr=>11 - lenOf ((wr.cell? ⟨w.heap.size + 1,3,none⟩).getD nilp))
        case atStart=>exact⟨11,[],[],nils,r5,rfl,rfl,Nat.zero_le _,Chg.refl _ _,H8.out.par,H8.out.blk,World.ownsRow_nil _ _ _ _,rfl,From.nil _⟩
        case round=>
         obtain⟨f,acc,cs,l,ts',hr,hf,ha,hC,hp,hb,ho,hes,hF⟩:=hrel;have HR:=zh hr;have HP:=zh hp;have HO:=zh ho;have HES:=zh hes;have HF:=zh hF;have HC:=zh hC;have HB:=zh hb;obtain⟨sa,sc,hs⟩:=slice_of_owns ho;have hsz:=hC.size;have hs8:=H8.out.sz;have hbl:=hb.lt;have HW:=zh (show Chg [bp] w wr from H8.out.chg.trans hC (fun x hx=>by simp at hx;rcases hx with rfl|rfl;exact .inl (by simp);exact .inr (by omega)));clear hr hp ho hes hF hC hb;subst hs;obtain⟨f,rfl⟩ : ∃ f',f=f' + 1:=⟨f - 1,by omega⟩
         have KSe:=zh (see_any [112,114,111,99] wr B bp bt z ts' HP.out);cases hk : see [112,114,111,99] ts' with
         | false=>
          rw [hk] at KSe;have HPL0:=zh (show procsL z 11 [] r5 = .ok acc ts' by rw [HR.out,procsL,if_neg (by rw [hk];simp)]);clear hk;go_wp2_with fail;refine KSe.out.mono ?_;rintro _ _ ⟨rfl,hw⟩;have hw:=hw.symm;subst hw;obtain⟨r6,hr6⟩ : ∃ r6,r6=ts':=⟨_,rfl⟩
          subst hr6;have HPL:=HPL0;have H9:=zh ((H8.out.loop HC.out HP.out HB.out).add (framed_Procs acc (.slice sa acc.length sc)) (by
           obtain⟨a,c,he,hac,hrow⟩:=Row.of_owns HO.out (new_owns HO.out HF.out);cases he
           refine ProcsAt.mono (F:=New w8 wr) (fun x hx=>⟨Nat.le_trans hs8 hx.1,hx.2⟩) ⟨_,_,_,rfl,hac,hrow,(framed_Prs acc cs).done HES.out⟩))
          clear HES HO HR HPL0;go_wp2_with fail;have K18:=zh (must_any [98,101,103,105,110] _ B bp bt z r6 H9.out.par);cases hx : must z [98,101,103,105,110] r6 with
          | bad en q=>
           have HRR:=zh (show module_ z ts = .bad en q by rw [module_];simp only [HXK1.out,HXKNm.out,HXK3.out,HIM.out,HXKV.out,HPL.out,block,hx]);rw [hx] at K18;clear hx;go_wp2_with fail;refine K18.out.mono ?_;intro e w9 he;have HEE:=zh he;obtain⟨b9,rfl⟩:=he.thrown;clear he;go_wp2_with fail;refine⟨rfl,?_⟩;rw [HRR.out];exact HEE.out.relay (H9.out.chg)
          | ok aK rK=>
           have HXK18:=zh hx;rw [hx] at K18;clear hx;go_wp2_with fail;obtain⟨r18,rfl⟩ : ∃ r18,r18=rK:=⟨rK,rfl⟩
           refine K18.out.mono ?_;rintro _ w18 ⟨hc,_,rfl,rfl,hp⟩;have H18:=zh (H9.out.step hc hp);clear hc hp;have KB:=zh (body0_any w18 B bp bt z r18 H18.out.par);cases hx : body0 z r18 with
           | bad en q=>
            have HRR:=zh (show module_ z ts = .bad en q by rw [module_];simp only [HXK1.out,HXKNm.out,HXK3.out,HIM.out,HXKV.out,HPL.out,block,HXK18.out,hx]);rw [hx] at KB;clear hx;go_wp2_with fail;refine KB.out.mono ?_;intro e w9 he;have HEE:=zh he;obtain⟨b9,rfl⟩:=he.thrown;clear he;go_wp2_with fail;refine⟨rfl,?_⟩;rw [HRR.out];exact HEE.out.relay (H18.out.chg)
           | ok aK rK=>
            have HXKB:=zh hx;rw [hx] at KB;clear hx;go_wp2_with fail;obtain⟨b,rfl⟩ : ∃ b,b=aK:=⟨aK,rfl⟩
            obtain⟨r19,rfl⟩ : ∃ r19,r19=rK:=⟨rK,rfl⟩
            refine KB.out.mono ?_;rintro _ w19 ⟨hc,_,rfl,hv,hp⟩;obtain⟨a5,c5,cs5,rfl,hv'⟩:=hv;have H19a:=zh (H18.out.call hc hp (framed_Sl b (.slice a5 b.len c5)) ⟨_,_,_,rfl,hv'⟩);clear hc hp hv';have hb19:=H19a.out.blk;have f4:=hb19.frozen 4;have e4:=hb19.cell 4 _ rfl;obtain⟨w19b,hw19⟩ : ∃ w19b,w19b=w19.setCell ⟨w.heap.size + 1,4,none⟩ (.slice a5 b.len c5):=⟨_,rfl⟩
            have H19:=zh (H19a.out.store 4 (.slice a5 b.len c5));simp only [Array.setIfInBounds] at H19;rw [← hw19] at H19;clear hb19;have K20:=zh (must_any [101,110,100] _ B bp bt z r19 H19.out.par);cases hx : must z [101,110,100] r19 with
            | bad en q=>
             have HRR:=zh (show module_ z ts = .bad en q by rw [module_];simp only [HXK1.out,HXKNm.out,HXK3.out,HIM.out,HXKV.out,HPL.out,block,HXK18.out,HXKB.out,hx]);rw [hx] at K20;clear hx;go_wp2_with fail;rw [← hw19];refine K20.out.mono ?_;intro e w9 he;have HEE:=zh he;obtain⟨b9,rfl⟩:=he.thrown;clear he;go_wp2_with fail;refine⟨rfl,?_⟩;rw [HRR.out];exact HEE.out.relay (H19.out.chg)
            | ok aK rK=>
             have HXK20:=zh hx;rw [hx] at K20;clear hx;go_wp2_with fail;rw [← hw19];obtain⟨r20,rfl⟩ : ∃ r20,r20=rK:=⟨rK,rfl⟩
             refine K20.out.mono ?_;rintro _ w20 ⟨hc,_,rfl,rfl,hp⟩;have H20:=zh (H19.out.step hc hp);clear hc hp;clear f4 e4 hw19;have K21:=zh (must_any [46] _ B bp bt z r20 H20.out.par);cases hx : must z [46] r20 with
             | bad en q=>
              have HRR:=zh (show module_ z ts = .bad en q by rw [module_];simp only [HXK1.out,HXKNm.out,HXK3.out,HIM.out,HXKV.out,HPL.out,block,HXK18.out,HXKB.out,HXK20.out,hx]);rw [hx] at K21;clear hx;go_wp2_with fail;refine K21.out.mono ?_;intro e w9 he;have HEE:=zh he;obtain⟨b9,rfl⟩:=he.thrown;clear he;go_wp2_with fail;refine⟨rfl,?_⟩;rw [HRR.out];exact HEE.out.relay (H20.out.chg)
             | ok aK rK=>
              have HXK21:=zh hx;rw [hx] at K21;clear hx;go_wp2_with fail;obtain⟨r21,rfl⟩ : ∃ r21,r21=rK:=⟨rK,rfl⟩
              refine K21.out.mono ?_;rintro _ w21 ⟨hc,_,rfl,rfl,hp⟩;have H21:=zh (H20.out.step hc hp);clear hc hp;have HRR:=zh (show module_ z ts = .ok ⟨n,ims,gs,acc,b⟩ r21 by rw [module_];simp only [HXK1.out,HXKNm.out,HXK3.out,HIM.out,HXKV.out,HPL.out,block,HXK18.out,HXKB.out,HXK20.out,HXK21.out]);have HD:=zh (H21.out);have hbE:=H21.out.blk;have hrE:=H21.out.res;have d0:=hbE.cell 0 _ rfl;have d1:=hbE.cell 1 _ rfl;have d2:=hbE.cell 2 _ rfl;have d3:=hbE.cell 3 _ rfl;have d4:=hbE.cell 4 _ rfl;have e0:=hrE.cell 0 _ rfl;have e1:=hrE.cell 1 _ rfl;have e2:=hrE.cell 2 _ rfl;have e3:=hrE.cell 3 _ rfl;have e4:=hrE.cell 4 _ rfl;have f0:=hrE.frozen 0;have f1:=hrE.frozen 1;have f2:=hrE.frozen 2;have f3:=hrE.frozen 3;have f4:=hrE.frozen 4;clear hbE hrE;go_wp2_with fail;obtain⟨wF,hwF,hcF,hbF⟩:=set5 (str n) ((.slice a3 ims.length c3)) ((.slice a7 gs.length c7)) (.slice sa acc.length sc) (.slice a5 b.len c5) HD.out.res;rw [hwF];clear hwF;have g0:=hbF.cell 0 (str n) rfl;have g1:=hbF.cell 1 ((.slice a3 ims.length c3)) rfl;have g2:=hbF.cell 2 ((.slice a7 gs.length c7)) rfl;have g3:=hbF.cell 3 (.slice sa acc.length sc) rfl;have g4:=hbF.cell 4 (.slice a5 b.len c5) rfl;refine bodyPost_ret (v:=.agg #[str n,(.slice a3 ims.length c3),(.slice a7 gs.length c7),.slice sa acc.length sc,.slice a5 b.len c5]) (by simp [results,Tryz.results35,go_sem,g0,g1,g2,g3,g4]) rfl ?_;rw [HRR.out];have hq:=HD.out.fin hcF;exact⟨HD.out.chg.trans hcF (fun x hx=>.inr (by simp at hx;omega)),_,rfl,⟨_,_,_,_,rfl,hq.1.1.1.2,hq.1.1.2,hq.1.2,hq.2⟩,HD.out.par.kept hcF (fun x hx=>by simp at hx;omega) (by simp;omega) (by simp;omega)⟩
         | true=>
          rw [hk] at KSe;have d3:=HB.out.cell 3 _ rfl;cases he : decide (acc.length=10) with
          | true=>
           have he1 : ((acc.length:Int) == 10)=true:=by have:=of_decide_eq_true he;simp [this]
           have HPL:=zh (show procsL z 11 [] r5 = .bad 4 (hd z ts') by rw [HR.out,procsL,if_pos hk,if_pos (of_decide_eq_true he)]);have HRR:=zh (show module_ z ts = .bad 4 (hd z ts') by rw [module_];simp only [HXK1.out,HXKNm.out,HXK3.out,HIM.out,HXKV.out,HPL.out]);clear he hk;go_wp2_with fail;refine KSe.out.mono ?_;rintro _ _ ⟨rfl,hw⟩;have hw:=hw.symm;subst hw;go_wp2_with fail;refine(fail_any 4 _ B bp bt z ts' HP.out).mono ?_;intro e w2 he;have HE:=zh he;obtain⟨b,rfl⟩:=he.thrown;clear he;go_wp2_with fail;refine⟨rfl,?_⟩;rw [HRR.out];exact HE.out.relay HW.out
          | false=>
           have he1 : ((acc.length:Int) == 10)=false:=by have:=of_decide_eq_false he;simp;omega
           have hne:=of_decide_eq_false he;have HG:Hid (∀ q,proc z ts'=q→procsL z 11 [] r5=match q with | .bad e p=>.bad e p | .ok g r=>procsL z f (acc ++ [g]) r):=zh (fun q hq=>by rw [HR.out,procsL,if_pos hk,if_neg hne,hq];cases q <;> rfl);have hPD:Par wr.drew B bp bt z ts':=HP.out.kept (Chg.refl [] wr).drew (by simp) (by simp) (by simp);have HX:=zh (proc_any wr.drew B bp bt z ts' hPD);have d3d : wr.drew.cell? ⟨w.heap.size + 1,3,none⟩=some (.slice sa acc.length sc):=d3;clear he hk hPD;cases hx : proc z ts' with
           | bad en q=>
            have HPL:=zh (HG.out _ hx);have HRR:=zh (show module_ z ts = .bad en q by rw [module_];simp only [HXK1.out,HXKNm.out,HXK3.out,HIM.out,HXKV.out,HPL.out]);rw [hx] at HX;clear hx;go_wp2_with fail;refine KSe.out.mono ?_;rintro _ _ ⟨rfl,hw⟩;have hw:=hw.symm;subst hw;go_wp2_with fail;refine wp_region_dead 3 [true,true,true] rfl (by kernel_rfl) (by kernel_rfl) rfl ?_
            repeat ((with_reducible show wpX _ _ _ _ _ _ _ _);(first|refine wpX_nil ?_|refine wpX_skip rfl ?_|refine wpX_mv rfl rfl (by kernel_rfl) (fun _ _=>?_)|refine wpX_ldD rfl rfl rfl (by exact⟨_,_,d3d⟩) (fun _ _=>?_));go_wp2_with fail)
            refine HX.out.mono ?_;intro e w6 he;have HEE:=zh he;obtain⟨b,rfl⟩:=he.thrown;clear he;intro a' ha;refine⟨ha,?_⟩;rw [HRR.out];exact HEE.out.relay HW.out.drew
           | ok x r=>
            have HPL:=zh (HG.out _ hx);rw [hx] at HX;clear hx;have hxb : (w.heap.size + 1)∉bp :: blk (.slice sa acc.length sc):=by
             simp only [List.mem_cons,not_or];exact⟨by omega,fun hm=>by have:=HF.out _ hm;omega⟩
            have HXB:=zh hxb;have HZ:=zh (Zone.of (X:=bp :: blk (.slice sa acc.length sc)) d3d hxb);clear hxb;go_wp2_with fail;refine KSe.out.mono ?_;rintro _ _ ⟨rfl,hw⟩;have hw:=hw.symm;subst hw;go_wp2_with fail;refine wp_region_T (bp :: blk (.slice sa acc.length sc)) rfl (by kernel_rfl) rfl ?_;have hS:Chg (bp :: blk (.slice sa acc.length sc)) wr.drew wr.drew:=Chg.refl _ _
            repeat ((with_reducible show wpX _ _ _ _ _ _ _ _);(first|refine wpX_nil ?_|refine wpX_skip rfl ?_|refine wpX_mv rfl rfl (by kernel_rfl) (fun _ _=>?_)|refine wpX_ldC rfl rfl rfl (by exact HZ.out) (by assumption) (fun _ _=>?_)|refine wpX_ef' rfl rfl rfl (fun _ _=>?_));go_wp2_with fail)
            refine HX.out.mono ?_;rintro _ w6 ⟨hc6,_,rfl,⟨cx,rfl,hx6⟩,hp6⟩;have HX6:=zh hx6;obtain⟨vp,vv,vb,rfl,h1,h2,h3⟩:=hx6;obtain⟨x1,y1,rfl,_,_⟩:=h1;obtain⟨x2,y2,rfl,_,_⟩:=h2;obtain⟨x3,y3,_,rfl,_,_⟩:=h3;have hS:Chg (bp :: blk (.slice sa acc.length sc)) wr.drew w6:=hc6.mono (fun x hx=>.inl (by simp at hx;simp [hx]));have HC6:=zh hc6;have HP6:=zh hp6;clear hc6 hp6;go_wp2_with fail;refine And.intro hS ?_
            repeat ((with_reducible show wpX _ _ _ _ _ _ _ _);(first|refine wpX_nil ?_|refine wpX_skip rfl ?_|refine wpX_mv rfl rfl (by kernel_rfl) (fun _ _=>?_)|refine wpX_ldC rfl rfl rfl (by exact HZ.out) (by assumption) (fun _ _=>?_)|refine wpX_ef' rfl rfl rfl (fun _ _=>?_));go_wp2_with fail)
            refine And.intro (hS.alloc _) ?_
            repeat ((with_reducible show wpX _ _ _ _ _ _ _ _);(first|refine wpX_nil ?_|refine wpX_skip rfl ?_|refine wpX_mv rfl rfl (by kernel_rfl) (fun _ _=>?_)|refine wpX_ldC rfl rfl rfl (by exact HZ.out) (by assumption) (fun _ _=>?_)|refine wpX_ef' rfl rfl rfl (fun _ _=>?_));go_wp2_with fail)
            have how:=owns_kept (w:=wr.drew) (owns_kept HO.out (Chg.refl [] wr).drew (by simp)) (HC6.out.alloc (.cells #[str x.name,.int .i64 x.pos,.bool x.seen,.slice x1 x.params.length y1,.slice x2 x.vars.length y2,.slice x3 x.body.len y3] 72)) (fun g hg hm=>by have:=HF.out g hg;simp at hm;omega);refine wpX_append _ _ 29 rfl rfl rfl 72 _ 6 104 infoProc Tryz.underlying29 rfl (by decide) (.slice sa acc.length sc) acc.length _ rfl how ⟨w6.heap.size,0,none⟩ 1 1 [str x.name,.int .i64 x.pos,.bool x.seen,.slice x1 x.params.length y1,.slice x2 x.vars.length y2,.slice x3 x.body.len y3] rfl rfl (cells_new _ _ _) (by simp [Value.oneCell']) (by omega) (by unfold maxLen;omega) ?_;intro v' w7 hown' hch' hmv';obtain⟨a',c',rfl⟩:=slice_of_owns hown';obtain⟨v',hv'⟩ : ∃ v',v'=Value.slice a' (acc.length + 1) c':=⟨_,rfl⟩
            rw [← hv'] at hown' hmv';have hc7:Chg (bp :: blk (.slice sa acc.length sc)) wr.drew w7:=(hS.alloc _).then (hch'.mono (fun x hx=>.inl (by simp [hx])))
            have hb7:Blk w7 (w.heap.size + 1) _ _:=HB.out.kept (Chg.trans (S:=bp :: blk (.slice sa acc.length sc)) (⟨rfl,rfl,rfl,Nat.le_refl _,fun _ _ _=>rfl⟩ : Chg _ wr wr.drew) hc7 (fun x hx=>.inl hx)) HXB.out;have hcell7:=hb7.cell 3 _ rfl;have hfz7:=hb7.frozen 3;have hsz6:=HC6.out.size;have hsz7 : w6.heap.size≤w7.heap.size:=Nat.le_trans (by simp) hch'.size;have hswd : wr.drew.heap.size=wr.heap.size:=rfl;have hes6:=(framed_Prs acc cs).call HES.out ((⟨rfl,rfl,rfl,Nat.le_refl _,fun _ _ _=>rfl⟩ : Chg [bp] wr wr.drew).then HC6.out) (by omega);have hlw : ∀ g∈blk (.slice sa acc.length sc),g < wr.drew.heap.size:=fun g hg=>owns_lt HO.out g hg
            have hx6':=(framed_Pr x _).fresh (w:=w8) (l:=.slice sa acc.length sc) HX6.out hlw (by omega);have hes7:=(framed_Prs acc cs).app hes6 hch' hmv';have hx7:=(framed_Pr x _).app hx6' hch' hmv';have HES7:=zh (PrsAt.snoc hes7 hx7);have hF7:From w8.heap.size v':=HF.out.moved hmv' (by simp;omega);have HF7:=zh hF7;have hp7:Par w7 B bp bt z r:=(HP6.out.kept ((Chg.refl [] w6).alloc _) (by simp) (by simp) (by simp)).kept hch' (fun g hg=>by have:=HF.out g hg;omega) (fun hm=>by have:=HF.out _ hm;omega) (fun hm=>by have:=HF.out _ hm;omega);have HP7:=zh hp7;have HO7:=zh hown';have HB7:=zh hb7;have HC7:=zh hc7;have hl7 : lenOf v'=acc.length + 1:=lenOf_owns hown';have HL7:=zh hl7;clear hown' hch' hmv' hb7 hS how hes6 hlw hx6' hes7 hx7 hF7 hp7 hl7 hc7;refine And.intro HC7.out ?_
            repeat ((with_reducible show wpX _ _ _ _ _ _ _ _);(first|refine wpX_nil ?_|refine wpX_skip rfl ?_|refine wpX_mv rfl rfl (by kernel_rfl) (fun _ _=>?_)|refine wpX_ldC rfl rfl rfl (by exact HZ.out) (by assumption) (fun _ _=>?_)|refine wpX_ef' rfl rfl rfl (fun _ _=>?_));go_wp2_with fail)
            refine stepX_ef rfl rfl (fun _ _=>?_)
            change Oper.wp _ (Oper.mk _ _ _ _ _ _) _ _ _ _
            go_wp2_with fail;rw [← hv'];have hcs:Chg [w.heap.size + 1] w7 (w7.setCell ⟨w.heap.size + 1,3,none⟩ v'):=Chg.set1 _ _ _ _;have hbs:Blk (w7.setCell ⟨w.heap.size + 1,3,none⟩ v') (w.heap.size + 1) #[str n,(.slice a3 ims.length c3),(.slice a7 gs.length c7),v',nils] 32:=HB7.out.set 3 v';have hwr7:Chg [bp,w.heap.size + 1] w8 w7:=(HC.out.trans (⟨rfl,rfl,rfl,Nat.le_refl _,fun _ _ _=>rfl⟩ : Chg [bp] wr wr.drew) (fun x hx=>.inl (by simp at hx;simp [hx]))).trans HC7.out (fun x hx=>by
             rcases List.mem_cons.1 hx with rfl|hx
             ·exact .inl (by simp)
             ·exact .inr (HF.out x hx))
            go_roundw
            case rel=>
             refine⟨f,acc ++ [x],_,v',r,HPL.out,by simp;omega,by simp;omega,hwr7.trans hcs (fun x hx=>.inl (by simp at hx;simp [hx])),HP7.out.kept hcs (fun x hx=>by simp at hx;omega) (by simp;omega) (by simp;omega),hbs,?_,(framed_Prs _ _).call HES7.out hcs (by omega),HF7.out⟩
             simpa using owns_kept HO7.out hcs (fun g hg hm=>by have:=HF7.out g hg;simp at hm;omega)
            case measure=>
             have g3:=hbs.cell 3 _ rfl;rw [g3,HB.out.cell 3 _ rfl]
             show 11 - lenOf v' < 11 - lenOf (.slice sa acc.length sc)
             rw [HL7.out];simp only [lenOf];omega
    | false=>
     have HI1:=zh hk;clear hk;go_wp2_with fail;refine KT1.out.mono ?_;rintro _ w4 ⟨rfl,_,_,hw⟩;rw [HI1.out];have hw':=(hw HI1.out).symm;subst hw';clear hw;have H6:=zh (H3.out.add (framed_Names [] nils) NamesAt.nil);have HIM:=zh (show imports z r3 = .ok [] r3 by simp only [imports,HI1.out,Bool.false_eq_true,if_false]);have KV:=zh (vars_any w3 B bp bt z r3 H6.out.par);cases hx : varsL z 11 [] r3 with
     | bad en q=>
      have HRR:=zh (show module_ z ts = .bad en q by rw [module_];simp only [HXK1.out,HXKNm.out,HXK3.out,HIM.out,hx]);rw [hx] at KV;clear hx;go_wp2_with fail;refine KV.out.mono ?_;intro e w9 he;have HEE:=zh he;obtain⟨b9,rfl⟩:=he.thrown;clear he;go_wp2_with fail;refine⟨rfl,?_⟩;rw [HRR.out];exact HEE.out.relay (H6.out.chg)
     | ok aK rK=>
      have HXKV:=zh hx;rw [hx] at KV;clear hx;go_wp2_with fail;obtain⟨gs,rfl⟩ : ∃ gs,gs=aK:=⟨aK,rfl⟩
      obtain⟨r5,rfl⟩ : ∃ r5,r5=rK:=⟨rK,rfl⟩
      refine KV.out.mono ?_;rintro _ w7 ⟨hc,_,rfl,hv,hp⟩;obtain⟨a7,c7,rfl,hv'⟩:=hv;have H7a:=zh (H6.out.call hc hp (framed_Globs gs (.slice a7 gs.length c7)) ⟨_,_,rfl,hv'⟩);clear hc hp hv';have hb7:=H7a.out.blk;have f2:=hb7.frozen 2;have e2:=hb7.cell 2 _ rfl;obtain⟨w8,hw8⟩ : ∃ w8,w8=w7.setCell ⟨w.heap.size + 1,2,none⟩ (.slice a7 gs.length c7):=⟨_,rfl⟩
      have H8:=zh (H7a.out.store 2 (.slice a7 gs.length c7));simp only [Array.setIfInBounds] at H8;rw [← hw8] at H8;clear hb7;go_wp2_with fail;rw [← hw8];clear f2 e2 hw8
      go_loopw [] (fun wr=>∃ (f:Nat) (acc:List Proc) (cs:List Value) (l:Value) (ts':List Tok),procsL z 11 [] r5=procsL z f acc ts'∧f + acc.length=11∧acc.length≤10∧Chg [bp,w.heap.size + 1] w8 wr∧Par wr B bp bt z ts' ∧
        Blk wr (w.heap.size + 1) #[str n,nils,(.slice a7 gs.length c7),l,nils] 32∧wr.ownsRow 0 72 6 l acc.length cs∧PrsAt wr (Off w8 wr l) acc cs∧From w8.heap.size l) (fun wr=>11 - lenOf ((wr.cell? ⟨w.heap.size + 1,3,none⟩).getD nilp))
      case atStart=>exact⟨11,[],[],nils,r5,rfl,rfl,Nat.zero_le _,Chg.refl _ _,H8.out.par,H8.out.blk,World.ownsRow_nil _ _ _ _,rfl,From.nil _⟩
      case round=>
       obtain⟨f,acc,cs,l,ts',hr,hf,ha,hC,hp,hb,ho,hes,hF⟩:=hrel;have HR:=zh hr;have HP:=zh hp;have HO:=zh ho;have HES:=zh hes;have HF:=zh hF;have HC:=zh hC;have HB:=zh hb;obtain⟨sa,sc,hs⟩:=slice_of_owns ho;have hsz:=hC.size;have hs8:=H8.out.sz;have hbl:=hb.lt;have HW:=zh (show Chg [bp] w wr from H8.out.chg.trans hC (fun x hx=>by simp at hx;rcases hx with rfl|rfl;exact .inl (by simp);exact .inr (by omega)));clear hr hp ho hes hF hC hb;subst hs;obtain⟨f,rfl⟩ : ∃ f',f=f' + 1:=⟨f - 1,by omega⟩
       have KSe:=zh (see_any [112,114,111,99] wr B bp bt z ts' HP.out);cases hk : see [112,114,111,99] ts' with
       | false=>
        rw [hk] at KSe;have HPL0:=zh (show procsL z 11 [] r5 = .ok acc ts' by rw [HR.out,procsL,if_neg (by rw [hk];simp)]);clear hk;go_wp2_with fail;refine KSe.out.mono ?_;rintro _ _ ⟨rfl,hw⟩;have hw:=hw.symm;subst hw;obtain⟨r6,hr6⟩ : ∃ r6,r6=ts':=⟨_,rfl⟩
        subst hr6;have HPL:=HPL0;have H9:=zh ((H8.out.loop HC.out HP.out HB.out).add (framed_Procs acc (.slice sa acc.length sc)) (by
         obtain⟨a,c,he,hac,hrow⟩:=Row.of_owns HO.out (new_owns HO.out HF.out);cases he
         refine ProcsAt.mono (F:=New w8 wr) (fun x hx=>⟨Nat.le_trans hs8 hx.1,hx.2⟩) ⟨_,_,_,rfl,hac,hrow,(framed_Prs acc cs).done HES.out⟩))
        clear HES HO HR HPL0;go_wp2_with fail;have K18:=zh (must_any [98,101,103,105,110] _ B bp bt z r6 H9.out.par);cases hx : must z [98,101,103,105,110] r6 with
        | bad en q=>
         have HRR:=zh (show module_ z ts = .bad en q by rw [module_];simp only [HXK1.out,HXKNm.out,HXK3.out,HIM.out,HXKV.out,HPL.out,block,hx]);rw [hx] at K18;clear hx;go_wp2_with fail;refine K18.out.mono ?_;intro e w9 he;have HEE:=zh he;obtain⟨b9,rfl⟩:=he.thrown;clear he;go_wp2_with fail;refine⟨rfl,?_⟩;rw [HRR.out];exact HEE.out.relay (H9.out.chg)
        | ok aK rK=>
         have HXK18:=zh hx;rw [hx] at K18;clear hx;go_wp2_with fail;obtain⟨r18,rfl⟩ : ∃ r18,r18=rK:=⟨rK,rfl⟩
         refine K18.out.mono ?_;rintro _ w18 ⟨hc,_,rfl,rfl,hp⟩;have H18:=zh (H9.out.step hc hp);clear hc hp;have KB:=zh (body0_any w18 B bp bt z r18 H18.out.par);cases hx : body0 z r18 with
         | bad en q=>
          have HRR:=zh (show module_ z ts = .bad en q by rw [module_];simp only [HXK1.out,HXKNm.out,HXK3.out,HIM.out,HXKV.out,HPL.out,block,HXK18.out,hx]);rw [hx] at KB;clear hx;go_wp2_with fail;refine KB.out.mono ?_;intro e w9 he;have HEE:=zh he;obtain⟨b9,rfl⟩:=he.thrown;clear he;go_wp2_with fail;refine⟨rfl,?_⟩;rw [HRR.out];exact HEE.out.relay (H18.out.chg)
         | ok aK rK=>
          have HXKB:=zh hx;rw [hx] at KB;clear hx;go_wp2_with fail;obtain⟨b,rfl⟩ : ∃ b,b=aK:=⟨aK,rfl⟩
          obtain⟨r19,rfl⟩ : ∃ r19,r19=rK:=⟨rK,rfl⟩
          refine KB.out.mono ?_;rintro _ w19 ⟨hc,_,rfl,hv,hp⟩;obtain⟨a5,c5,cs5,rfl,hv'⟩:=hv;have H19a:=zh (H18.out.call hc hp (framed_Sl b (.slice a5 b.len c5)) ⟨_,_,_,rfl,hv'⟩);clear hc hp hv';have hb19:=H19a.out.blk;have f4:=hb19.frozen 4;have e4:=hb19.cell 4 _ rfl;obtain⟨w19b,hw19⟩ : ∃ w19b,w19b=w19.setCell ⟨w.heap.size + 1,4,none⟩ (.slice a5 b.len c5):=⟨_,rfl⟩
          have H19:=zh (H19a.out.store 4 (.slice a5 b.len c5));simp only [Array.setIfInBounds] at H19;rw [← hw19] at H19;clear hb19;have K20:=zh (must_any [101,110,100] _ B bp bt z r19 H19.out.par);cases hx : must z [101,110,100] r19 with
          | bad en q=>
           have HRR:=zh (show module_ z ts = .bad en q by rw [module_];simp only [HXK1.out,HXKNm.out,HXK3.out,HIM.out,HXKV.out,HPL.out,block,HXK18.out,HXKB.out,hx]);rw [hx] at K20;clear hx;go_wp2_with fail;rw [← hw19];refine K20.out.mono ?_;intro e w9 he;have HEE:=zh he;obtain⟨b9,rfl⟩:=he.thrown;clear he;go_wp2_with fail;refine⟨rfl,?_⟩;rw [HRR.out];exact HEE.out.relay (H19.out.chg)
          | ok aK rK=>
           have HXK20:=zh hx;rw [hx] at K20;clear hx;go_wp2_with fail;rw [← hw19];obtain⟨r20,rfl⟩ : ∃ r20,r20=rK:=⟨rK,rfl⟩
           refine K20.out.mono ?_;rintro _ w20 ⟨hc,_,rfl,rfl,hp⟩;have H20:=zh (H19.out.step hc hp);clear hc hp;clear f4 e4 hw19;have K21:=zh (must_any [46] _ B bp bt z r20 H20.out.par);cases hx : must z [46] r20 with
           | bad en q=>
            have HRR:=zh (show module_ z ts = .bad en q by rw [module_];simp only [HXK1.out,HXKNm.out,HXK3.out,HIM.out,HXKV.out,HPL.out,block,HXK18.out,HXKB.out,HXK20.out,hx]);rw [hx] at K21;clear hx;go_wp2_with fail;refine K21.out.mono ?_;intro e w9 he;have HEE:=zh he;obtain⟨b9,rfl⟩:=he.thrown;clear he;go_wp2_with fail;refine⟨rfl,?_⟩;rw [HRR.out];exact HEE.out.relay (H20.out.chg)
           | ok aK rK=>
            have HXK21:=zh hx;rw [hx] at K21;clear hx;go_wp2_with fail;obtain⟨r21,rfl⟩ : ∃ r21,r21=rK:=⟨rK,rfl⟩
            refine K21.out.mono ?_;rintro _ w21 ⟨hc,_,rfl,rfl,hp⟩;have H21:=zh (H20.out.step hc hp);clear hc hp;have HRR:=zh (show module_ z ts = .ok ⟨n,([] : List (List UInt8)),gs,acc,b⟩ r21 by rw [module_];simp only [HXK1.out,HXKNm.out,HXK3.out,HIM.out,HXKV.out,HPL.out,block,HXK18.out,HXKB.out,HXK20.out,HXK21.out]);have HD:=zh (H21.out);have hbE:=H21.out.blk;have hrE:=H21.out.res;have d0:=hbE.cell 0 _ rfl;have d1:=hbE.cell 1 _ rfl;have d2:=hbE.cell 2 _ rfl;have d3:=hbE.cell 3 _ rfl;have d4:=hbE.cell 4 _ rfl;have e0:=hrE.cell 0 _ rfl;have e1:=hrE.cell 1 _ rfl;have e2:=hrE.cell 2 _ rfl;have e3:=hrE.cell 3 _ rfl;have e4:=hrE.cell 4 _ rfl;have f0:=hrE.frozen 0;have f1:=hrE.frozen 1;have f2:=hrE.frozen 2;have f3:=hrE.frozen 3;have f4:=hrE.frozen 4;clear hbE hrE;go_wp2_with fail;obtain⟨wF,hwF,hcF,hbF⟩:=set5 (str n) (nils) ((.slice a7 gs.length c7)) (.slice sa acc.length sc) (.slice a5 b.len c5) HD.out.res;rw [hwF];clear hwF;have g0:=hbF.cell 0 (str n) rfl;have g1:=hbF.cell 1 (nils) rfl;have g2:=hbF.cell 2 ((.slice a7 gs.length c7)) rfl;have g3:=hbF.cell 3 (.slice sa acc.length sc) rfl;have g4:=hbF.cell 4 (.slice a5 b.len c5) rfl;refine bodyPost_ret (v:=.agg #[str n,nils,(.slice a7 gs.length c7),.slice sa acc.length sc,.slice a5 b.len c5]) (by simp [results,Tryz.results35,go_sem,g0,g1,g2,g3,g4]) rfl ?_;rw [HRR.out];have hq:=HD.out.fin hcF;exact⟨HD.out.chg.trans hcF (fun x hx=>.inr (by simp at hx;omega)),_,rfl,⟨_,_,_,_,rfl,hq.1.1.1.2,hq.1.1.2,hq.1.2,hq.2⟩,HD.out.par.kept hcF (fun x hx=>by simp at hx;omega) (by simp;omega) (by simp;omega)⟩
       | true=>
        rw [hk] at KSe;have d3:=HB.out.cell 3 _ rfl;cases he : decide (acc.length=10) with
        | true=>
         have he1 : ((acc.length:Int) == 10)=true:=by have:=of_decide_eq_true he;simp [this]
         have HPL:=zh (show procsL z 11 [] r5 = .bad 4 (hd z ts') by rw [HR.out,procsL,if_pos hk,if_pos (of_decide_eq_true he)]);have HRR:=zh (show module_ z ts = .bad 4 (hd z ts') by rw [module_];simp only [HXK1.out,HXKNm.out,HXK3.out,HIM.out,HXKV.out,HPL.out]);clear he hk;go_wp2_with fail;refine KSe.out.mono ?_;rintro _ _ ⟨rfl,hw⟩;have hw:=hw.symm;subst hw;go_wp2_with fail;refine(fail_any 4 _ B bp bt z ts' HP.out).mono ?_;intro e w2 he;have HE:=zh he;obtain⟨b,rfl⟩:=he.thrown;clear he;go_wp2_with fail;refine⟨rfl,?_⟩;rw [HRR.out];exact HE.out.relay HW.out
        | false=>
         have he1 : ((acc.length:Int) == 10)=false:=by have:=of_decide_eq_false he;simp;omega
         have hne:=of_decide_eq_false he;have HG:Hid (∀ q,proc z ts'=q→procsL z 11 [] r5=match q with | .bad e p=>.bad e p | .ok g r=>procsL z f (acc ++ [g]) r):=zh (fun q hq=>by rw [HR.out,procsL,if_pos hk,if_neg hne,hq];cases q <;> rfl);have hPD:Par wr.drew B bp bt z ts':=HP.out.kept (Chg.refl [] wr).drew (by simp) (by simp) (by simp);have HX:=zh (proc_any wr.drew B bp bt z ts' hPD);have d3d : wr.drew.cell? ⟨w.heap.size + 1,3,none⟩=some (.slice sa acc.length sc):=d3;clear he hk hPD;cases hx : proc z ts' with
         | bad en q=>
          have HPL:=zh (HG.out _ hx);have HRR:=zh (show module_ z ts = .bad en q by rw [module_];simp only [HXK1.out,HXKNm.out,HXK3.out,HIM.out,HXKV.out,HPL.out]);rw [hx] at HX;clear hx;go_wp2_with fail;refine KSe.out.mono ?_;rintro _ _ ⟨rfl,hw⟩;have hw:=hw.symm;subst hw;go_wp2_with fail;refine wp_region_dead 3 [true,true,true] rfl (by kernel_rfl) (by kernel_rfl) rfl ?_
          repeat ((with_reducible show wpX _ _ _ _ _ _ _ _);(first|refine wpX_nil ?_|refine wpX_skip rfl ?_|refine wpX_mv rfl rfl (by kernel_rfl) (fun _ _=>?_)|refine wpX_ldD rfl rfl rfl (by exact⟨_,_,d3d⟩) (fun _ _=>?_));go_wp2_with fail)
          refine HX.out.mono ?_;intro e w6 he;have HEE:=zh he;obtain⟨b,rfl⟩:=he.thrown;clear he;intro a' ha;refine⟨ha,?_⟩;rw [HRR.out];exact HEE.out.relay HW.out.drew
         | ok x r=>
          have HPL:=zh (HG.out _ hx);rw [hx] at HX;clear hx;have hxb : (w.heap.size + 1)∉bp :: blk (.slice sa acc.length sc):=by
           simp only [List.mem_cons,not_or];exact⟨by omega,fun hm=>by have:=HF.out _ hm;omega⟩
          have HXB:=zh hxb;have HZ:=zh (Zone.of (X:=bp :: blk (.slice sa acc.length sc)) d3d hxb);clear hxb;go_wp2_with fail;refine KSe.out.mono ?_;rintro _ _ ⟨rfl,hw⟩;have hw:=hw.symm;subst hw;go_wp2_with fail;refine wp_region_T (bp :: blk (.slice sa acc.length sc)) rfl (by kernel_rfl) rfl ?_;have hS:Chg (bp :: blk (.slice sa acc.length sc)) wr.drew wr.drew:=Chg.refl _ _
          repeat ((with_reducible show wpX _ _ _ _ _ _ _ _);(first|refine wpX_nil ?_|refine wpX_skip rfl ?_|refine wpX_mv rfl rfl (by kernel_rfl) (fun _ _=>?_)|refine wpX_ldC rfl rfl rfl (by exact HZ.out) (by assumption) (fun _ _=>?_)|refine wpX_ef' rfl rfl rfl (fun _ _=>?_));go_wp2_with fail)
          refine HX.out.mono ?_;rintro _ w6 ⟨hc6,_,rfl,⟨cx,rfl,hx6⟩,hp6⟩;have HX6:=zh hx6;obtain⟨vp,vv,vb,rfl,h1,h2,h3⟩:=hx6;obtain⟨x1,y1,rfl,_,_⟩:=h1;obtain⟨x2,y2,rfl,_,_⟩:=h2;obtain⟨x3,y3,_,rfl,_,_⟩:=h3;have hS:Chg (bp :: blk (.slice sa acc.length sc)) wr.drew w6:=hc6.mono (fun x hx=>.inl (by simp at hx;simp [hx]));have HC6:=zh hc6;have HP6:=zh hp6;clear hc6 hp6;go_wp2_with fail;refine And.intro hS ?_
          repeat ((with_reducible show wpX _ _ _ _ _ _ _ _);(first|refine wpX_nil ?_|refine wpX_skip rfl ?_|refine wpX_mv rfl rfl (by kernel_rfl) (fun _ _=>?_)|refine wpX_ldC rfl rfl rfl (by exact HZ.out) (by assumption) (fun _ _=>?_)|refine wpX_ef' rfl rfl rfl (fun _ _=>?_));go_wp2_with fail)
          refine And.intro (hS.alloc _) ?_
          repeat ((with_reducible show wpX _ _ _ _ _ _ _ _);(first|refine wpX_nil ?_|refine wpX_skip rfl ?_|refine wpX_mv rfl rfl (by kernel_rfl) (fun _ _=>?_)|refine wpX_ldC rfl rfl rfl (by exact HZ.out) (by assumption) (fun _ _=>?_)|refine wpX_ef' rfl rfl rfl (fun _ _=>?_));go_wp2_with fail)
          have how:=owns_kept (w:=wr.drew) (owns_kept HO.out (Chg.refl [] wr).drew (by simp)) (HC6.out.alloc (.cells #[str x.name,.int .i64 x.pos,.bool x.seen,.slice x1 x.params.length y1,.slice x2 x.vars.length y2,.slice x3 x.body.len y3] 72)) (fun g hg hm=>by have:=HF.out g hg;simp at hm;omega);refine wpX_append _ _ 29 rfl rfl rfl 72 _ 6 104 infoProc Tryz.underlying29 rfl (by decide) (.slice sa acc.length sc) acc.length _ rfl how ⟨w6.heap.size,0,none⟩ 1 1 [str x.name,.int .i64 x.pos,.bool x.seen,.slice x1 x.params.length y1,.slice x2 x.vars.length y2,.slice x3 x.body.len y3] rfl rfl (cells_new _ _ _) (by simp [Value.oneCell']) (by omega) (by unfold maxLen;omega) ?_;intro v' w7 hown' hch' hmv';obtain⟨a',c',rfl⟩:=slice_of_owns hown';obtain⟨v',hv'⟩ : ∃ v',v'=Value.slice a' (acc.length + 1) c':=⟨_,rfl⟩
          rw [← hv'] at hown' hmv';have hc7:Chg (bp :: blk (.slice sa acc.length sc)) wr.drew w7:=(hS.alloc _).then (hch'.mono (fun x hx=>.inl (by simp [hx])))
          have hb7:Blk w7 (w.heap.size + 1) _ _:=HB.out.kept (Chg.trans (S:=bp :: blk (.slice sa acc.length sc)) (⟨rfl,rfl,rfl,Nat.le_refl _,fun _ _ _=>rfl⟩ : Chg _ wr wr.drew) hc7 (fun x hx=>.inl hx)) HXB.out;have hcell7:=hb7.cell 3 _ rfl;have hfz7:=hb7.frozen 3;have hsz6:=HC6.out.size;have hsz7 : w6.heap.size≤w7.heap.size:=Nat.le_trans (by simp) hch'.size;have hswd : wr.drew.heap.size=wr.heap.size:=rfl;have hes6:=(framed_Prs acc cs).call HES.out ((⟨rfl,rfl,rfl,Nat.le_refl _,fun _ _ _=>rfl⟩ : Chg [bp] wr wr.drew).then HC6.out) (by omega);have hlw : ∀ g∈blk (.slice sa acc.length sc),g < wr.drew.heap.size:=fun g hg=>owns_lt HO.out g hg
          have hx6':=(framed_Pr x _).fresh (w:=w8) (l:=.slice sa acc.length sc) HX6.out hlw (by omega);have hes7:=(framed_Prs acc cs).app hes6 hch' hmv';have hx7:=(framed_Pr x _).app hx6' hch' hmv';have HES7:=zh (PrsAt.snoc hes7 hx7);have hF7:From w8.heap.size v':=HF.out.moved hmv' (by simp;omega);have HF7:=zh hF7;have hp7:Par w7 B bp bt z r:=(HP6.out.kept ((Chg.refl [] w6).alloc _) (by simp) (by simp) (by simp)).kept hch' (fun g hg=>by have:=HF.out g hg;omega) (fun hm=>by have:=HF.out _ hm;omega) (fun hm=>by have:=HF.out _ hm;omega);have HP7:=zh hp7;have HO7:=zh hown';have HB7:=zh hb7;have HC7:=zh hc7;have hl7 : lenOf v'=acc.length + 1:=lenOf_owns hown';have HL7:=zh hl7;clear hown' hch' hmv' hb7 hS how hes6 hlw hx6' hes7 hx7 hF7 hp7 hl7 hc7;refine And.intro HC7.out ?_
          repeat ((with_reducible show wpX _ _ _ _ _ _ _ _);(first|refine wpX_nil ?_|refine wpX_skip rfl ?_|refine wpX_mv rfl rfl (by kernel_rfl) (fun _ _=>?_)|refine wpX_ldC rfl rfl rfl (by exact HZ.out) (by assumption) (fun _ _=>?_)|refine wpX_ef' rfl rfl rfl (fun _ _=>?_));go_wp2_with fail)
          refine stepX_ef rfl rfl (fun _ _=>?_)
          change Oper.wp _ (Oper.mk _ _ _ _ _ _) _ _ _ _
          go_wp2_with fail;rw [← hv'];have hcs:Chg [w.heap.size + 1] w7 (w7.setCell ⟨w.heap.size + 1,3,none⟩ v'):=Chg.set1 _ _ _ _;have hbs:Blk (w7.setCell ⟨w.heap.size + 1,3,none⟩ v') (w.heap.size + 1) #[str n,nils,(.slice a7 gs.length c7),v',nils] 32:=HB7.out.set 3 v';have hwr7:Chg [bp,w.heap.size + 1] w8 w7:=(HC.out.trans (⟨rfl,rfl,rfl,Nat.le_refl _,fun _ _ _=>rfl⟩ : Chg [bp] wr wr.drew) (fun x hx=>.inl (by simp at hx;simp [hx]))).trans HC7.out (fun x hx=>by
           rcases List.mem_cons.1 hx with rfl|hx
           ·exact .inl (by simp)
           ·exact .inr (HF.out x hx))
          go_roundw
          case rel=>
           refine⟨f,acc ++ [x],_,v',r,HPL.out,by simp;omega,by simp;omega,hwr7.trans hcs (fun x hx=>.inl (by simp at hx;simp [hx])),HP7.out.kept hcs (fun x hx=>by simp at hx;omega) (by simp;omega) (by simp;omega),hbs,?_,(framed_Prs _ _).call HES7.out hcs (by omega),HF7.out⟩
           simpa using owns_kept HO7.out hcs (fun g hg hm=>by have:=HF7.out g hg;simp at hm;omega)
          case measure=>
           have g3:=hbs.cell 3 _ rfl;rw [g3,HB.out.cell 3 _ rfl]
           show 11 - lenOf v' < 11 - lenOf (.slice sa acc.length sc)
           rw [HL7.out];simp only [lenOf];omega
end Go.Proofs.YtechofppmnnomaaGreatDoor
namespace Go.Proofs.YtechofppmnnomaaGreatDoor
open Go Go.RowKit Go.Mq Go.Mq.Tree
set_option maxRecDepth 100000
set_option maxHeartbeats 4000000
theorem letter_any (c:UInt8) (w:World):Calls Tryz.prog 104 #[.int .u8 c.toNat] w (fun e w'=>e = .returned (.bool (letter c))∧w'=w):=by
 obtain⟨n,hn⟩ : ∃ n:Nat,n=c.toNat:=⟨_,rfl⟩
 have HL:=zh (show letter c=(decide (97≤n) && decide (n≤122)) by rw [letter,hn]);rw [← hn];clear hn;cases h1 : decide (97≤n) with
 | false=>
  have h1' : decide ((97:Int)≤(n:Int))=false:=by have:=of_decide_eq_false h1;simp;omega
  rw [h1] at HL;clear h1
  go_enter Tryz.func104,Tryz.ntmps104
  go_wp2_with fail;go_ret
  rw [HL.out];exact⟨rfl,rfl⟩
 | true=>
  have h1' : decide ((97:Int)≤(n:Int))=true:=by have:=of_decide_eq_true h1;simp;omega
  have h2' : decide ((n:Int)≤122)=decide (n≤122):=by by_cases h : n≤122 <;> simp [h] <;> omega
  rw [h1] at HL;clear h1
  go_enter Tryz.func104,Tryz.ntmps104
  go_wp2_with fail;go_ret
  rw [HL.out,← h2'];exact⟨rfl,rfl⟩
theorem digit_any (c:UInt8) (w:World):Calls Tryz.prog 107 #[.int .u8 c.toNat] w (fun e w'=>e = .returned (.bool (digit c))∧w'=w):=by
 obtain⟨n,hn⟩ : ∃ n:Nat,n=c.toNat:=⟨_,rfl⟩
 have HL:=zh (show digit c=(decide (48≤n) && decide (n≤57)) by rw [digit,hn]);rw [← hn];clear hn;cases h1 : decide (48≤n) with
 | false=>
  have h1' : decide ((48:Int)≤(n:Int))=false:=by have:=of_decide_eq_false h1;simp;omega
  rw [h1] at HL;clear h1
  go_enter Tryz.func107,Tryz.ntmps107
  go_wp2_with fail;go_ret
  rw [HL.out];exact⟨rfl,rfl⟩
 | true=>
  have h1' : decide ((48:Int)≤(n:Int))=true:=by have:=of_decide_eq_true h1;simp;omega
  have h2' : decide ((n:Int)≤57)=decide (n≤57):=by by_cases h : n≤57 <;> simp [h] <;> omega
  rw [h1] at HL;clear h1
  go_enter Tryz.func107,Tryz.ntmps107
  go_wp2_with fail;go_ret
  rw [HL.out,← h2'];exact⟨rfl,rfl⟩
theorem alnum_any (c:UInt8) (w:World):Calls Tryz.prog 106 #[.int .u8 c.toNat] w (fun e w'=>e = .returned (.bool (letter c || digit c))∧w'=w):=by
 have HL:=zh (letter_any c w);have HD:=zh (digit_any c w);obtain⟨n,hn⟩ : ∃ n:Nat,n=c.toNat:=⟨_,rfl⟩
 rw [← hn] at HL HD;rw [← hn];clear hn;cases h1 : letter c with
 | true=>
  rw [h1] at HL;clear h1
  go_enter Tryz.func106,Tryz.ntmps106
  go_wp2_with fail;refine HL.out.mono ?_;rintro _ w2 ⟨rfl,hw⟩;have hw:=hw.symm;subst hw;go_wp2_with fail;go_ret
  exact⟨rfl,rfl⟩
 | false=>
  rw [h1] at HL;clear h1
  go_enter Tryz.func106,Tryz.ntmps106
  go_wp2_with fail;refine HL.out.mono ?_;rintro _ w2 ⟨rfl,hw⟩;have hw:=hw.symm;subst hw;go_wp2_with fail;refine HD.out.mono ?_;rintro _ w2 ⟨rfl,hw⟩;have hw:=hw.symm;subst hw;go_wp2_with fail;go_ret
  exact⟨rfl,rfl⟩
theorem run_any (f:UInt8→Bool) (F:FuncId) (hF : ∀ (cs:Array Value) (w:World),(callFunc F cs).run Tryz.prog w = .ok (.enter F cs) w) (w:World) (hc : ∀ c:UInt8,Calls Tryz.prog F #[.int .u8 c.toNat] w (fun e w'=>e = .returned (.bool (f c))∧w'=w))
  (l:List UInt8) (hl : l.length≤1099511627776):Calls Tryz.prog 105 #[str l,.func (.func F) #[] #[]] w (fun e w'=>e = .returned (.int .i64 (howN f l))∧w'=w):=by
 have HC:=zh hc;obtain⟨s,hs⟩ : ∃ s,s=bs l:=⟨_,rfl⟩
 have hsz : s.size=l.length:=by rw [hs];rfl
 have HS:=zh hs
 show Calls Tryz.prog 105 #[.string (bs l),.func (.func F) #[] #[]] w _
 rw [← hs];clear hc hs
 go_enter Tryz.func105,Tryz.ntmps105
 go_wp2_with fail
 go_loopw [5] (fun v wr=>∃ k:Nat,v = .int .i64 k∧k≤l.length∧wr=w∧howN f l=k + howN f (l.drop k)) (fun v _=>l.length - (intOf v).toNat)
 case atStart=>exact⟨0,rfl,Nat.zero_le _,rfl,by simp⟩
 case round=>
  obtain⟨k,rfl,hk,rfl,hr⟩:=hrel;have HR:=zh hr;clear hr;by_cases hlt : k < l.length
  ·have hdec : decide ((k:Int) < (s.size:Int))=true:=by simp;omega
   obtain⟨c,hcc⟩ : ∃ c,l[k]?=some c:=⟨l[k],List.getElem?_eq_getElem hlt⟩
   have hdrop : l.drop k=c :: l.drop (k + 1):=by
    rw [List.drop_eq_getElem_cons hlt]
    congr 1
    rw [List.getElem?_eq_getElem hlt] at hcc;exact Option.some.inj hcc
   have hidx:=run_index_str (P:=Tryz.prog) Tryz.underlying9 (show s[k]?=some c by rw [HS.out,bs_get];exact hcc);have HCL:=zh (HC.out c);obtain⟨n,hn⟩ : ∃ n:Nat,n=c.toNat:=⟨_,rfl⟩
   rw [← hn] at hidx HCL;clear hn hcc;cases hf : f c with
   | true=>
    have HRR:=zh (show howN f l=(k + 1) + howN f (l.drop (k + 1)) by rw [HR.out,hdrop,howN,if_pos hf];omega);rw [hf] at HCL;clear hf hdrop;go_wp2_with fail;refine HCL.out.mono ?_;rintro _ w2 ⟨rfl,hw⟩;have hw:=hw.symm;subst hw;go_wp2_with fail;exact⟨⟨k + 1,by go_num,by omega,by first|rfl|trivial,HRR.out⟩,by simp [intOf];omega⟩
   | false=>
    have HRR:=zh (show howN f l=k by rw [HR.out,hdrop,howN,if_neg (by rw [hf];simp)];rfl);rw [hf] at HCL;clear hf hdrop;go_wp2_with fail;refine HCL.out.mono ?_;rintro _ w2 ⟨rfl,hw⟩;have hw:=hw.symm;subst hw;go_wp2_with fail;go_ret
    rw [HRR.out];exact⟨rfl,rfl⟩
  ·have hdec : decide ((k:Int) < (s.size:Int))=false:=by simp;omega
   have HRR:=zh (show howN f l=k by rw [HR.out,List.drop_eq_nil_of_le (by omega)];rfl);go_wp2_with fail;go_ret
   rw [HRR.out];exact⟨rfl,rfl⟩
theorem marks_index (k:Nat) (hk : k < 18) (w:World) : (Instr.index 201 (.agg #[str [58,61],str [60,61],str [62,61],str [35],str [61],str [60],str [62],str [43],str [45],str [42],str [40],str [41],str [91],str [93],str [44],str [59],str [58],str [46]]) (.int .i64 k)).run Tryz.prog w = .ok (str (marks.getD k [])) w:=by
 match k,hk with
 | 0,_=>rfl
 | 1,_=>rfl
 | 2,_=>rfl
 | 3,_=>rfl
 | 4,_=>rfl
 | 5,_=>rfl
 | 6,_=>rfl
 | 7,_=>rfl
 | 8,_=>rfl
 | 9,_=>rfl
 | 10,_=>rfl
 | 11,_=>rfl
 | 12,_=>rfl
 | 13,_=>rfl
 | 14,_=>rfl
 | 15,_=>rfl
 | 16,_=>rfl
 | 17,_=>rfl
 | n + 18,h=>omega
end Go.Proofs.YtechofppmnnomaaGreatDoor
