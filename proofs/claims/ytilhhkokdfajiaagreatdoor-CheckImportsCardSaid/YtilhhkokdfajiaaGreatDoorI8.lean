/- Some texts in one. -/
import Derived.MapKept
import Derived.Test.YtilhhkokdfajiaaGreatDoorI1
import Derived.Test.YtilhhkokdfajiaaGreatDoorI5
import Derived.Test.YtilhhkokdfajiaaGreatDoorI6
namespace Go.Proofs.YtilhhkokdfajiaaGreatDoor
open Go Go.RowKit Go.Mq Go.Mq.Tree
set_option maxRecDepth 100000
theorem par_nil {w:World} {B bp bt z:Nat} (h:Par w B bp bt z []) : ∃ off c,w.cell? ⟨bp,0,none⟩=some (.slice (some ⟨bt,off,none⟩) 1 c)∧w.cell? ⟨bt,off,none⟩=some (.int .i64 4)∧w.cell? ⟨bt,off + 2,none⟩=some (.int .i64 z)∧1≤c:=by
 obtain ⟨off,c,hb,hl,hc⟩:=h.at_
 exact ⟨off,c,hb.cell 0 _ rfl,hc 0 _ rfl,hc 2 _ rfl,hl⟩
theorem par_cons {w:World} {B bp bt z:Nat} {t:Tok} {r:List Tok} (h:Par w B bp bt z (t :: r)) : ∃ off c,Blk w bp #[.slice (some ⟨bt,off,none⟩) (r.length + 2) c] 58 ∧
  w.cell? ⟨bp,0,none⟩=some (.slice (some ⟨bt,off,none⟩) (r.length + 2) c)∧w.cell? ⟨bt,off,none⟩=some (.int .i64 t.kind.num)∧w.cell? ⟨bt,off + 1,none⟩=some (str t.text)∧w.cell? ⟨bt,off + 2,none⟩=some (.int .i64 t.pos)∧r.length + 2≤c ∧
  ∀ i v,(toksCells z r)[i]?=some v→w.cell? ⟨bt,off + 3 + i,none⟩=some v:=by
 obtain ⟨off,c,hb,hl,hc⟩:=h.at_
 refine ⟨off,c,hb,hb.cell 0 _ rfl,hc 0 _ rfl,hc 1 _ rfl,hc 2 _ rfl,hl,fun i v hi=>?_⟩
 rw [Nat.add_assoc]
 refine hc (3 + i) v ?_
 simpa [toksCells,Tok.cells,Nat.add_comm 3 i] using hi
theorem kind_ne (k:Kind) : (((k.num:Nat):Int) != 4)=true:=by cases k <;> decide
theorem see_any (s:List UInt8) (w:World) (B bp bt z:Nat) (ts:List Tok) (h:Par w B bp bt z ts) :
  Calls Tryz.prog 40 #[ptr bp,str s] w (fun e w'=>e = .returned (.bool (see s ts))∧w'=w):=by
 cases ts with
 | nil=>
  obtain ⟨off,c,c0,c1,_,hl⟩:=par_nil h
  clear h
  go_enter Tryz.func40,Tryz.ntmps40
  go_wp2_with fail
  go_ret
  exact ⟨rfl,rfl⟩
 | cons t r=>
  obtain ⟨off,c,_,c0,c1,c2,_,hl,_⟩:=par_cons h
  have hk:=kind_ne t.kind
  clear h
  go_enter Tryz.func40,Tryz.ntmps40
  go_wp2_with fail
  go_ret
  exact ⟨rfl,rfl⟩
theorem par_tail {w:World} {B bp bt z:Nat} {t:Tok} {r:List Tok} {off c:Nat} (h:Par w B bp bt z (t :: r)) (hb:Blk w bp #[.slice (some ⟨bt,off,none⟩) (r.length + 2) c] 58) (hl : r.length + 2≤c)
  (hc : ∀ i v,(toksCells z r)[i]?=some v→w.cell? ⟨bt,off + 3 + i,none⟩=some v) :
  Par (w.setCell ⟨bp,0,none⟩ (.slice (some ⟨bt,off + 3,none⟩) (r.length + 1) (c - 1))) B bp bt z r∧Chg [bp] w (w.setCell ⟨bp,0,none⟩ (.slice (some ⟨bt,off + 3,none⟩) (r.length + 1) (c - 1))):=by
 have hch:=Chg.set1 w bp 0 (.slice (some ⟨bt,off + 3,none⟩) (r.length + 1) (c - 1))
 have hB:=h.bpB
 refine ⟨⟨h.laid.kept hch (fun x hx=>by simp at hx; omega),h.bpB,h.btB,h.ne,by have:=h.few; simp at this; omega,fun t ht=>h.short t (List.mem_cons_of_mem _ ht),off + 3,c - 1,?_,by omega,fun i v hi=>hch.cellSome (hc i v hi) (by simpa using h.ne)⟩,hch⟩
 have:=hb.set 0 (.slice (some ⟨bt,off + 3,none⟩) (r.length + 1) (c - 1))
 simpa using this
theorem take_any (s:List UInt8) (w:World) (B bp bt z:Nat) (ts:List Tok) (h:Par w B bp bt z ts) :
  Calls Tryz.prog 37 #[ptr bp,str s] w (fun e w'=>e = .returned (.bool (see s ts))∧Par w' B bp bt z (skip s ts)∧Chg [bp] w w'∧(see s ts=false→w'=w)):=by
 have HS:=Lib.hid (see_any s w B bp bt z ts h)
 have H:=Lib.hid h
 cases hs : see s ts with
 | false=>
  have HI:=Lib.hid hs
  clear h hs
  go_enter Tryz.func37,Tryz.ntmps37
  go_wp2_with fail
  refine HS.out.mono ?_; rintro _ w1 ⟨rfl,rfl⟩
  rw [HI.out]
  go_wp2_with fail
  go_ret
  refine ⟨rfl,?_,Chg.refl _ _,fun _=>rfl⟩
  rw [skip,HI.out]
  exact H.out
 | true=>
  cases ts with
  | nil=>cases hs
  | cons t r=>
   obtain ⟨off,c,hb,c0,c1,c2,_,hl,hc⟩:=par_cons h
   have hf:=hb.frozen 0
   have HI:=Lib.hid hs
   have HT:=Lib.hid (par_tail h hb hl hc)
   clear h hs hc hb c1 c2
   go_enter Tryz.func37,Tryz.ntmps37
   go_wp2_with fail
   refine HS.out.mono ?_; rintro _ w1 ⟨rfl,rfl⟩
   rw [HI.out]
   go_wp2_with fail
   go_ret
   refine ⟨rfl,?_,HT.out.2,fun h=>by cases h⟩
   rw [skip,HI.out]
   exact HT.out.1
theorem fail_any (en:Nat) (w:World) (B bp bt z:Nat) (ts:List Tok) (h:Par w B bp bt z ts) :
  Calls Tryz.prog 21 #[ptr bp,.int .i64 en] w (Ended w B bp bt z (.bad en (hd z ts):R Unit) (fun _ _ _=>True)):=by
 have key : ∃ off c n,w.cell? ⟨bp,0,none⟩=some (.slice (some ⟨bt,off,none⟩) (n + 1) c)∧w.cell? ⟨bt,off + 2,none⟩=some (.int .i64 (hd z ts)):=by
  cases ts with
  | nil=>obtain ⟨off,c,c0,_,c2,_⟩:=par_nil h; exact ⟨off,c,0,c0,c2⟩
  | cons t r=>obtain ⟨off,c,_,c0,_,_,c2,_⟩:=par_cons h; exact ⟨off,c,r.length + 1,c0,c2⟩
 obtain ⟨off,c,n,c0,c2⟩:=key
 clear h
 go_enter Tryz.func21,Tryz.ntmps21
 go_wp2_with fail
 refine ⟨rfl,(Chg.refl _ _).alloc _,w.heap.size,rfl,Nat.le_refl _,Blk.new _ _ _⟩
theorem must_any (s:List UInt8) (w:World) (B bp bt z:Nat) (ts:List Tok) (h:Par w B bp bt z ts) :
  Calls Tryz.prog 35 #[ptr bp,str s] w (Ended w B bp bt z (must z s ts) (fun _ _ v=>v = .tuple #[])):=by
 have HT:=Lib.hid (take_any s w B bp bt z ts h)
 cases hs : see s ts with
 | false=>
  have HI:=Lib.hid hs
  have HF:=Lib.hid (fail_any 3 w B bp bt z ts h)
  clear h hs
  go_enter Tryz.func35,Tryz.ntmps35
  go_wp2_with fail
  refine HT.out.mono ?_; rintro _ w1 ⟨rfl,_,_,hw⟩
  rw [HI.out]
  have hw':=hw HI.out
  subst hw'
  go_wp2_with fail
  refine HF.out.mono ?_; rintro e w2 ⟨hc,b,rfl,hb⟩
  go_wp2_with fail
  refine ⟨rfl,?_⟩
  rw [must,HI.out]
  exact ⟨hc,b,rfl,hb⟩
 | true=>
  have HI:=Lib.hid hs
  clear h hs
  go_enter Tryz.func35,Tryz.ntmps35
  go_wp2_with fail
  refine HT.out.mono ?_; rintro _ w1 ⟨rfl,hp,hc,_⟩
  rw [HI.out]
  go_wp2_with fail
  refine bodyPost_end (results_none rfl _ _ _) rfl ?_
  rw [must,HI.out]
  refine ⟨hc,_,rfl,rfl,?_⟩
  rw [skip,HI.out] at hp
  exact hp
end Go.Proofs.YtilhhkokdfajiaaGreatDoor
namespace Go.Mq.Tree
open Go Go.RowKit Go.Mq
def ents (ks:List (List UInt8)) (n:Nat):List MapEntry:=match ks with
 | []=>[]
 | k :: r=>{ key:=str k,val:=.int .i64 1,born:=n } :: ents r (n + 1)
theorem ents_snoc (ks:List (List UInt8)) (k:List UInt8) : ∀ n,ents (ks ++ [k]) n=ents ks n ++ [{ key:=str k,val:=.int .i64 1,born:=n + ks.length }]:=by
 induction ks with
 | nil=>intro n; simp [ents]
 | cons x r ih=>intro n; simp [ents,ih]; omega
def mw (w:World) (m i:Nat):World:={ w with heap:=w.heap.setIfInBounds m (.map (ents (keptWords.take i) 0).toArray (min i keptWords.length)) }
theorem bs_beq (a b:List UInt8) : (bs a == bs b)=(a == b):=by
 rw [Bool.eq_iff_iff,MapKept.bytes_beq,beq_iff_eq]
 constructor
 ·intro h; simpa using congrArg (fun x:ByteArray=>x.data.toList) h
 ·rintro rfl; rfl
theorem find_ents (k:List UInt8) (ks:List (List UInt8)) : ∀ n i,∃ j,Instr.findNow .string (str k) (ents ks n) i=some (if ks.contains k then some (j,.int .i64 1) else none):=by
 induction ks with
 | nil=>intro n i; exact ⟨0,rfl⟩
 | cons x r ih=>
  intro n i
  simp only [ents,Instr.findNow,Instr.sameNow,str,List.contains_cons]
  have e:=bs_beq k x
  cases h : k == x with
  | true=>rw [h] at e; exact ⟨i,by simp [e]⟩
  | false=>
   rw [h] at e
   obtain ⟨j,hj⟩:=ih (n + 1) (i + 1)
   refine ⟨j,?_⟩
   simp only [e,Bool.false_or]
   exact hj
section
variable {P:Program} {T K E:TypeId}
theorem tgetm {w:World} {r:Nat} {es:Array MapEntry} {clock:Nat} (hb : w.heap[r]?=some (.map es clock)) : (getObj r).run P w = .ok (.map es clock) w:=by simp [getObj,Sem.run,hb]
theorem tsetm {w:World} {r:Nat} {es:Array MapEntry} {clock:Nat} (o:Obj) (hb : w.heap[r]?=some (.map es clock)) : (setObj r o).run P w = .ok () { w with heap:=w.heap.setIfInBounds r o }:=by simp [setObj,Sem.run,hb]
theorem run_cks {w:World} (hK:P.underlying K=some .string) (e:Bool) (b:ByteArray) : (Instr.checkKey e 10000 K (.string b)).run P w = .ok () w:=by
 rw [show (10000:Nat)=9999 + 1 from rfl,Instr.checkKey]
 simp [run_underlying hK]
theorem mw_get (w:World) (m i:Nat) (hm : m < w.heap.size) : (mw w m i).heap[m]?=some (.map (ents (keptWords.take i) 0).toArray (min i keptWords.length)):=by
 simp [mw,hm]
theorem mw_ins (hT:P.underlying T=some (.map K E)) (hK:P.underlying K=some .string) (w:World) (m i:Nat) (k:List UInt8) (hm : m < w.heap.size) (hi : i < keptWords.length) (hk : keptWords[i]?=some k) (hn : (keptWords.take i).contains k=false) :
  (Instr.mapUpdate T (.map (some m)) (str k) (.int .i64 1)).run P (mw w m i) = .ok () (mw w m (i + 1)):=by
 have hb:=mw_get w m i hm
 obtain ⟨j,hj⟩:=find_ents k (keptWords.take i) 0 0
 rw [hn] at hj
 simp only [Bool.false_eq_true,if_false] at hj
 simp only [Instr.mapUpdate,Sem.run_bind,run_underlying hT,Result.andThen_ok,tgetm hb,run_cks hK,Instr.findKey,run_underlying hK,hj,Sem.run_pure,tsetm _ hb]
 congr 1
 simp only [mw,World.mk.injEq,and_true,Array.setIfInBounds_setIfInBounds]
 have e2 : keptWords.take (i + 1)=keptWords.take i ++ [k]:=by rw [List.take_add_one,hk]; rfl
 have e3 : (keptWords.take i).length=i:=by simp; omega
 have e4 : keptWords.length=21:=rfl
 rw [e2,ents_snoc,e3,e4]
 rw [e4] at hi
 rw [show min (i + 1) 21=min i 21 + 1 by omega,show min i 21=i by omega]
 simp
theorem mw_look (hT:P.underlying T=some (.map K E)) (hK:P.underlying K=some .string) (hE : ∀ w,(zeroValue E).run P w = .ok (.int .i64 0) w) (w:World) (m:Nat) (k:List UInt8) (hm : m < w.heap.size) :
  (Instr.lookup T (.map (some m)) (str k) false).run P (mw w m 21) = .ok (.int .i64 (if kept k then 1 else 0)) (mw w m 21):=by
 have hb:=mw_get w m 21 hm
 obtain ⟨j,hj⟩:=find_ents k (keptWords.take 21) 0 0
 rw [show keptWords.take 21=keptWords from rfl] at hj hb
 unfold kept
 cases h : keptWords.contains k <;> rw [h] at hj <;> simp only [Bool.false_eq_true,if_false,if_true] at hj <;>
  simp [Instr.lookup,run_underlying hT,tgetm hb,run_cks hK,Instr.findKey,run_underlying hK,hj,hE]
end
theorem mw_zero (w:World) : w.alloc (.map #[] 0)=mw (w.alloc (.map #[] 0)) w.heap.size 0:=by
 have e : (w.alloc (.map #[] 0)).heap=(w.alloc (.map #[] 0)).heap.setIfInBounds w.heap.size (.map (ents (keptWords.take 0) 0).toArray (min 0 keptWords.length)):=by
  apply Array.ext_getElem?
  intro i
  rw [Array.getElem?_setIfInBounds]
  by_cases h : w.heap.size=i
  ·subst h
   rw [heap_alloc_new]
   simp [ents]
  ·simp [h]
 unfold mw
 rw [← e]
theorem mw_chg (w:World) (i:Nat):Chg [] w (mw (w.alloc (.map #[] 0)) w.heap.size i):=by
 refine ⟨rfl,rfl,rfl,by simp [mw],fun k hk _=>?_⟩
 have : ((w.alloc (.map #[] 0)).heap.setIfInBounds w.heap.size (.map (ents (keptWords.take i) 0).toArray (min i keptWords.length)))[k]?=w.heap[k]?:=by
  rw [Array.getElem?_setIfInBounds_ne (by omega)]
  exact Below.heap_alloc w _ k hk
 exact this
end Go.Mq.Tree
namespace Go.Proofs.YtilhhkokdfajiaaGreatDoor
open Go Go.RowKit Go.Mq Go.Mq.Tree
set_option maxRecDepth 100000
set_option maxHeartbeats 2000000
theorem kept_any (s:List UInt8) (w:World) :
  Calls Tryz.prog 60 #[str s] w (fun e w'=>e = .returned (.bool (kept s))∧Chg [] w w'):=by
 have hmm : ∀ w,(Instr.makeMap 158 none).run Tryz.prog w = .ok (.map (some w.heap.size)) (mw (w.alloc (.map #[] 0)) w.heap.size 0):=fun w=>by rw [← mw_zero]; exact run_makeMap _ _
 have hm : w.heap.size < (w.alloc (.map #[] 0)).heap.size:=by simp
 have hz : ∀ w,(zeroValue 3).run Tryz.prog w = .ok (.int .i64 0) w:=Tryz.zeroValue3
 have h0:=mw_ins (P:=Tryz.prog) Tryz.underlying158 Tryz.underlying9 (w.alloc (.map #[] 0)) w.heap.size 0 _ hm (by decide) rfl (by decide)
 have h1:=mw_ins (P:=Tryz.prog) Tryz.underlying158 Tryz.underlying9 (w.alloc (.map #[] 0)) w.heap.size 1 _ hm (by decide) rfl (by decide)
 have h2:=mw_ins (P:=Tryz.prog) Tryz.underlying158 Tryz.underlying9 (w.alloc (.map #[] 0)) w.heap.size 2 _ hm (by decide) rfl (by decide)
 have h3:=mw_ins (P:=Tryz.prog) Tryz.underlying158 Tryz.underlying9 (w.alloc (.map #[] 0)) w.heap.size 3 _ hm (by decide) rfl (by decide)
 have h4:=mw_ins (P:=Tryz.prog) Tryz.underlying158 Tryz.underlying9 (w.alloc (.map #[] 0)) w.heap.size 4 _ hm (by decide) rfl (by decide)
 have h5:=mw_ins (P:=Tryz.prog) Tryz.underlying158 Tryz.underlying9 (w.alloc (.map #[] 0)) w.heap.size 5 _ hm (by decide) rfl (by decide)
 have h6:=mw_ins (P:=Tryz.prog) Tryz.underlying158 Tryz.underlying9 (w.alloc (.map #[] 0)) w.heap.size 6 _ hm (by decide) rfl (by decide)
 have h7:=mw_ins (P:=Tryz.prog) Tryz.underlying158 Tryz.underlying9 (w.alloc (.map #[] 0)) w.heap.size 7 _ hm (by decide) rfl (by decide)
 have h8:=mw_ins (P:=Tryz.prog) Tryz.underlying158 Tryz.underlying9 (w.alloc (.map #[] 0)) w.heap.size 8 _ hm (by decide) rfl (by decide)
 have h9:=mw_ins (P:=Tryz.prog) Tryz.underlying158 Tryz.underlying9 (w.alloc (.map #[] 0)) w.heap.size 9 _ hm (by decide) rfl (by decide)
 have h10:=mw_ins (P:=Tryz.prog) Tryz.underlying158 Tryz.underlying9 (w.alloc (.map #[] 0)) w.heap.size 10 _ hm (by decide) rfl (by decide)
 have h11:=mw_ins (P:=Tryz.prog) Tryz.underlying158 Tryz.underlying9 (w.alloc (.map #[] 0)) w.heap.size 11 _ hm (by decide) rfl (by decide)
 have h12:=mw_ins (P:=Tryz.prog) Tryz.underlying158 Tryz.underlying9 (w.alloc (.map #[] 0)) w.heap.size 12 _ hm (by decide) rfl (by decide)
 have h13:=mw_ins (P:=Tryz.prog) Tryz.underlying158 Tryz.underlying9 (w.alloc (.map #[] 0)) w.heap.size 13 _ hm (by decide) rfl (by decide)
 have h14:=mw_ins (P:=Tryz.prog) Tryz.underlying158 Tryz.underlying9 (w.alloc (.map #[] 0)) w.heap.size 14 _ hm (by decide) rfl (by decide)
 have h15:=mw_ins (P:=Tryz.prog) Tryz.underlying158 Tryz.underlying9 (w.alloc (.map #[] 0)) w.heap.size 15 _ hm (by decide) rfl (by decide)
 have h16:=mw_ins (P:=Tryz.prog) Tryz.underlying158 Tryz.underlying9 (w.alloc (.map #[] 0)) w.heap.size 16 _ hm (by decide) rfl (by decide)
 have h17:=mw_ins (P:=Tryz.prog) Tryz.underlying158 Tryz.underlying9 (w.alloc (.map #[] 0)) w.heap.size 17 _ hm (by decide) rfl (by decide)
 have h18:=mw_ins (P:=Tryz.prog) Tryz.underlying158 Tryz.underlying9 (w.alloc (.map #[] 0)) w.heap.size 18 _ hm (by decide) rfl (by decide)
 have h19:=mw_ins (P:=Tryz.prog) Tryz.underlying158 Tryz.underlying9 (w.alloc (.map #[] 0)) w.heap.size 19 _ hm (by decide) rfl (by decide)
 have h20:=mw_ins (P:=Tryz.prog) Tryz.underlying158 Tryz.underlying9 (w.alloc (.map #[] 0)) w.heap.size 20 _ hm (by decide) rfl (by decide)
 have hl:=mw_look (P:=Tryz.prog) Tryz.underlying158 Tryz.underlying9 hz (w.alloc (.map #[] 0)) w.heap.size s hm
 have HC:=Lib.hid (mw_chg w 21)
 clear hz
 go_enter Tryz.func60,Tryz.ntmps60
 go_wp2_with fail
 all_goals
  go_ret
  exact ⟨rfl,HC.out⟩
end Go.Proofs.YtilhhkokdfajiaaGreatDoor
namespace Go.Mq.Tree
open Go Go.RowKit Go.Mq
theorem Ended.relay {α β:Type} {w w1 w2:World} {B bp bt z en p:Nat} {V:World→α→Value→Prop} {V':World→β→Value→Prop} {e:Ending} (hc:Chg [bp] w w1) (h:Ended w1 B bp bt z (.bad en p:R α) V e w2):Ended w B bp bt z (.bad en p:R β) V' e w2:=by
 obtain ⟨hc2,b,he,hb,hB⟩:=h
 exact ⟨hc.then hc2,b,he,Nat.le_trans hc.size hb,hB⟩
theorem Ended.thrown {α:Type} {w w2:World} {B bp bt z en p:Nat} {V:World→α→Value→Prop} {e:Ending} (h:Ended w B bp bt z (.bad en p:R α) V e w2) : ∃ b,e = .panicked [{ v:=.iface 51 (.agg #[.iface 94 (ptr b)]),recovered:=false }]:=by
 obtain ⟨_,b,he,_⟩:=h
 exact ⟨b,he⟩
theorem Ended.part {α:Type} {w w2:World} {B bp bt z:Nat} {o:R α} {V:World→α→Value→Prop} {e:Ending} (h:Ended w B bp bt z o V e w2) :
  (∃ en q b,e = .panicked [{ v:=.iface 51 (.agg #[.iface 94 (ptr b)]),recovered:=false }]∧Hid (o = .bad en q)∧Hid (Ended w B bp bt z (.bad en q:R α) V (.panicked [{ v:=.iface 51 (.agg #[.iface 94 (ptr b)]),recovered:=false }]) w2)) ∨
  ∃ a r,Hid (o = .ok a r)∧Ended w B bp bt z (.ok a r) V e w2:=by
 cases o with
 | bad en q=>obtain ⟨b,rfl⟩:=h.thrown; exact .inl ⟨en,q,b,rfl,Lib.hid rfl,Lib.hid h⟩
 | ok a r=>exact .inr ⟨a,r,Lib.hid rfl,h⟩
theorem Ended.cut {α:Type} {w w2:World} {B bp bt z:Nat} {o:R α} {V:World→α→Value→Prop} {e:Ending} (h:Ended w B bp bt z o V e w2) :
  (∃ en q b,e = .panicked [{ v:=.iface 51 (.agg #[.iface 94 (ptr b)]),recovered:=false }]∧Hid (o = .bad en q)∧Hid (∀ {β:Type} (o':R β) V' w0,Chg [bp] w0 w→o' = .bad en q→Ended w0 B bp bt z o' V' (.panicked [{ v:=.iface 51 (.agg #[.iface 94 (ptr b)]),recovered:=false }]) w2)) ∨
  ∃ a r v,e = .returned v∧Hid (o = .ok a r)∧V w2 a v∧Chg [bp] w w2∧Par w2 B bp bt z r:=by
 cases o with
 | bad en q=>
  obtain ⟨hc,b,he,hb,hB⟩:=h
  exact .inl ⟨en,q,b,he,Lib.hid rfl,Lib.hid fun o' V' w0 h0 e=>e ▸ ⟨h0.then hc,b,rfl,Nat.le_trans h0.size hb,hB⟩⟩
 | ok a r=>
  obtain ⟨hc,v,he,hv,hp⟩:=h
  exact .inr ⟨a,r,v,he,Lib.hid rfl,hv,hc,hp⟩
end Go.Mq.Tree
namespace Go.Proofs.YtilhhkokdfajiaaGreatDoor
open Go Go.RowKit Go.Mq Go.Mq.Tree
set_option maxRecDepth 100000
set_option maxHeartbeats 2000000
theorem tok_new {w w1:World} {k t p:Value} {ty:TypeId} (hc:Chg [] (w.alloc (.cells #[k,t,p] ty)) w1) : w1.cell? ⟨w.heap.size,0,none⟩=some k∧w1.cell? ⟨w.heap.size,1,none⟩=some t∧w1.cell? ⟨w.heap.size,2,none⟩=some p∧Chg [] w w1:=by
 have hb:=Blk.new w #[k,t,p] ty
 exact ⟨hc.cellSome (hb.cell 0 _ rfl) (by simp),hc.cellSome (hb.cell 1 _ rfl) (by simp),hc.cellSome (hb.cell 2 _ rfl) (by simp),((Chg.refl [] w).alloc _).then hc⟩
theorem name_any (w:World) (B bp bt z:Nat) (ts:List Tok) (h:Par w B bp bt z ts) :
  Calls Tryz.prog 36 #[ptr bp] w (Ended w B bp bt z (name z ts) (fun _ n v=>v=str n)):=by
 have H:=Lib.hid h
 cases ts with
 | nil=>
  obtain ⟨off,c,c0,c1,c2,hl⟩:=par_nil h
  have c1' : w.cell? ⟨bt,off + 1,none⟩=some (str []):=by
   obtain ⟨off',c',hb',hl',hc'⟩:=h.at_
   have e:=(hb'.cell 0 _ rfl).symm.trans c0
   simp at e
   rw [← e.1]
   exact hc' 1 _ rfl
  clear h
  go_enter Tryz.func36,Tryz.ntmps36
  go_wp2_with fail
  have hc:=(Chg.refl [bp] w).alloc (.cells #[.int .i64 4,str [],.int .i64 z] 61)
  refine (fail_any 3 _ B bp bt z [] (H.out.kept ((Chg.refl [] w).alloc _) (by simp) (by simp) (by simp))).mono ?_; intro e w2 he
  have HE:=Lib.hid he
  obtain ⟨b,rfl⟩:=he.thrown
  have HC:=Lib.hid hc; clear hc he
  go_wp2_with fail
  exact ⟨rfl,HE.out.relay HC.out⟩
 | cons t r=>
  obtain ⟨off,c,hb,c0,c1,c2,c3,hl,hcs⟩:=par_cons h
  have hf:=hb.frozen 0
  have HT:=Lib.hid (par_tail h hb hl hcs)
  have hP:=h.kept ((Chg.refl [] w).alloc (.cells #[.int .i64 t.kind.num,str t.text,.int .i64 t.pos] 61)) (by simp) (by simp) (by simp)
  have HP:=Lib.hid hP
  have hne:=h.ne
  have hbp : bp < w.heap.size:=hb.lt
  have HB:=Lib.hid (And.intro hb hl)
  have HK:=Lib.hid (kept_any t.text)
  have HS:=Lib.hid hcs
  clear hb hl hcs hP
  cases hkd : decide (t.kind = .word) with
  | false=>
   have hk : ((t.kind.num:Int) != 1)=true:=by cases hq : t.kind <;> simp_all [Kind.num]
   have HR:=Lib.hid (show name z (t :: r) = .bad 3 t.pos by rw [name,if_pos (.inl (of_decide_eq_false hkd))])
   clear h hkd
   go_enter Tryz.func36,Tryz.ntmps36
   go_wp2_with fail
   refine (fail_any 3 _ B bp bt z (t :: r) HP.out).mono ?_; intro e w2 he
   have HE:=Lib.hid he
   obtain ⟨b,rfl⟩:=he.thrown
   clear he
   go_wp2_with fail
   refine ⟨rfl,?_⟩
   rw [HR.out]
   exact HE.out.relay ((Chg.refl _ _).alloc _)
  | true=>
   have hk : ((t.kind.num:Int) != 1)=false:=by cases hq : t.kind <;> simp_all [Kind.num]
   have HW:=Lib.hid (of_decide_eq_true hkd)
   clear h hkd
   cases hkp : kept t.text with
   | true=>
    have HR:=Lib.hid (show name z (t :: r) = .bad 3 t.pos by rw [name,if_pos (.inr hkp)])
    have HKP:=Lib.hid hkp
    clear hkp
    go_enter Tryz.func36,Tryz.ntmps36
    go_wp2_with fail
    refine (HK.out _).mono ?_; rintro _ w1 ⟨rfl,hc⟩
    rw [HKP.out]
    have HC:=Lib.hid hc; clear hc
    go_wp2_with fail
    refine (fail_any 3 _ B bp bt z (t :: r) (HP.out.kept HC.out (by simp) (by simp) (by simp))).mono ?_; intro e w2 he
    have HE:=Lib.hid he
    obtain ⟨b,rfl⟩:=he.thrown
    clear he
    go_wp2_with fail
    refine ⟨rfl,?_⟩
    rw [HR.out]
    exact HE.out.relay (((Chg.refl [bp] w).alloc _).then HC.out.weak)
   | false=>
    cases hln : decide (10 < t.text.length) with
    | true=>
     have hln' : decide ((10:Int) < (t.text.length:Int))=true:=by have:=of_decide_eq_true hln; exact decide_eq_true (by omega)
     have HR:=Lib.hid (show name z (t :: r) = .bad 4 t.pos by rw [name,if_neg (by simp [HW.out,hkp]),if_pos (of_decide_eq_true hln)])
     have HKP:=Lib.hid hkp
     clear hkp hln
     go_enter Tryz.func36,Tryz.ntmps36
     go_wp2_with fail
     refine (HK.out _).mono ?_; rintro _ w1 ⟨rfl,hc⟩
     rw [HKP.out]
     have HC:=Lib.hid hc
     obtain ⟨d0,d1,d2,hc0⟩:=tok_new hc
     clear hc
     have HC0:=Lib.hid hc0; clear hc0
     go_wp2_with fail
     refine (fail_any 4 _ B bp bt z (t :: r) (HP.out.kept HC.out (by simp) (by simp) (by simp))).mono ?_; intro e w2 he
     have HE:=Lib.hid he
     obtain ⟨b,rfl⟩:=he.thrown
     clear he
     go_wp2_with fail
     refine ⟨rfl,?_⟩
     rw [HR.out]
     exact HE.out.relay (((Chg.refl [bp] w).alloc _).then HC.out.weak)
    | false=>
     have hln' : decide ((10:Int) < (t.text.length:Int))=false:=by have:=of_decide_eq_false hln; exact decide_eq_false (by omega)
     have HR:=Lib.hid (show name z (t :: r) = .ok t.text r by rw [name,if_neg (by simp [HW.out,hkp]),if_neg (of_decide_eq_false hln)])
     have HKP:=Lib.hid hkp
     have hnb : w.heap.size≠bp:=by omega
     have hl:=HB.out.2
     clear hkp hln
     go_enter Tryz.func36,Tryz.ntmps36
     go_wp2_with fail
     refine (HK.out _).mono ?_; rintro _ w1 ⟨rfl,hc⟩
     rw [HKP.out]
     obtain ⟨d0,d1,d2,hc0⟩:=tok_new hc
     clear hc
     have hb1:=HB.out.1.kept hc0 (by simp)
     have e0:=hb1.cell 0 _ rfl
     have ef:=hb1.frozen 0
     have hp1:=H.out.kept hc0 (by simp) (by simp) (by simp)
     have HT1:=Lib.hid (par_tail hp1 hb1 HB.out.2 (fun i v hi=>hc0.cellSome (HS.out i v hi) (by simp)))
     have HC0:=Lib.hid hc0; clear hc0 hp1 hb1
     go_wp2_with fail
     go_ret
     rw [HR.out]
     exact ⟨HC0.out.weak.then HT1.out.2,_,rfl,rfl,HT1.out.1⟩
end Go.Proofs.YtilhhkokdfajiaaGreatDoor
namespace Go.Proofs.YtilhhkokdfajiaaGreatDoor
open Go Go.RowKit Go.Mq Go.Mq.Tree
set_option maxRecDepth 100000
set_option maxHeartbeats 2000000
def IntOf (t:List UInt8) (e:Ending):Prop:=match Lib.parseIntB 64 t with
 | .ok v=>e = .returned (.tuple #[.int .i64 v,.nilIface])
 | _=>∃ n T b,e = .returned (.tuple #[.int .i64 n,.iface T (.pointer (some ⟨b,0,none⟩))])
theorem parseInt_any (t:List UInt8) (w:World) (B:Nat) (hL:Laid w B) (ht : t.length≤1099511627776) :
  Calls Tryz.prog 81 #[str t,.int .i64 10,.int .i64 64] w (fun e w'=>Chg [] w w'∧IntOf t e):=by
 have hd : (bs t).data.toList=t:=rfl
 have hz : (bs t).size=t.length:=rfl
 unfold IntOf
 rcases hp:Lib.parseIntB 64 t with v | _ | _
 ·skip
  refine (Any.strconv_ParseInt_10_at64_ok Tryz.lays174 (bs t) (by omega) v (by rw [hd]; exact hp) w).mono ?_
  rintro e w' ⟨rfl,rfl | ⟨s,rfl⟩⟩
  ·exact ⟨Chg.refl _ _,rfl⟩
  ·exact ⟨Chg.of_below (Lib.bytesWorld_below _ _ _),rfl⟩
 ·skip
  obtain ⟨ev,h1,h2⟩:=hL.syn
  refine (Any.strconv_ParseInt_10_at64_syntax Tryz.lays174 (bs t) (by omega) (by rw [hd]; exact hp) ev w h1 h2).mono ?_
  rintro e w' ⟨N,rfl,_,_,hb⟩
  exact ⟨Chg.of_below hb,_,_,_,rfl⟩
 ·skip
  obtain ⟨ev,h1,h2⟩:=hL.range
  refine (Any.strconv_ParseInt_10_at64_range Tryz.lays174 (bs t) (by omega) (by rw [hd]; exact hp) ev w h1 h2).mono ?_
  rintro e w' ⟨N,rfl,_,_,hb⟩
  exact ⟨Chg.of_below hb,_,_,_,rfl⟩
theorem number_any (most:Int) (w:World) (B bp bt z:Nat) (ts:List Tok) (h:Par w B bp bt z ts) :
  Calls Tryz.prog 61 #[ptr bp,.int .i64 most] w (Ended w B bp bt z (number z most ts) (fun _ n v=>v = .int .i64 n)):=by
 have H:=Lib.hid h
 cases ts with
 | nil=>
  obtain ⟨off,c,c0,c1,c2,hl⟩:=par_nil h
  have c1' : w.cell? ⟨bt,off + 1,none⟩=some (str []):=by
   obtain ⟨off',c',hb',hl',hc'⟩:=h.at_
   have e:=(hb'.cell 0 _ rfl).symm.trans c0
   simp at e
   rw [← e.1]
   exact hc' 1 _ rfl
  clear h
  go_enter Tryz.func61,Tryz.ntmps61
  go_wp2_with fail
  have hc:=(Chg.refl [bp] w).alloc (.cells #[.int .i64 4,str [],.int .i64 z] 61)
  refine (fail_any 3 _ B bp bt z [] (H.out.kept ((Chg.refl [] w).alloc _) (by simp) (by simp) (by simp))).mono ?_; intro e w2 he
  have HE:=Lib.hid he
  obtain ⟨b,rfl⟩:=he.thrown
  have HC:=Lib.hid hc; clear hc he
  go_wp2_with fail
  exact ⟨rfl,HE.out.relay HC.out⟩
 | cons t r=>
  obtain ⟨off,c,hb,c0,c1,c2,c3,hl,hcs⟩:=par_cons h
  have hf:=hb.frozen 0
  have hP:=h.kept ((Chg.refl [] w).alloc (.cells #[.int .i64 t.kind.num,str t.text,.int .i64 t.pos] 61)) (by simp) (by simp) (by simp)
  have HP:=Lib.hid hP
  have hne:=h.ne
  have hbp : bp < w.heap.size:=hb.lt
  have HB:=Lib.hid (And.intro hb hl)
  have HI:=Lib.hid (parseInt_any t.text _ B hP.laid (h.short t (by simp)))
  have HS:=Lib.hid hcs
  clear hb hl hcs hP
  cases hkd : decide (t.kind = .number) with
  | false=>
   have hk : ((t.kind.num:Int) != 2)=true:=by cases hq : t.kind <;> simp_all [Kind.num]
   have HR:=Lib.hid (show number z most (t :: r) = .bad 3 t.pos by rw [number,if_pos (of_decide_eq_false hkd)])
   clear h hkd
   go_enter Tryz.func61,Tryz.ntmps61
   go_wp2_with fail
   refine (fail_any 3 _ B bp bt z (t :: r) HP.out).mono ?_; intro e w2 he
   have HE:=Lib.hid he
   obtain ⟨b,rfl⟩:=he.thrown
   clear he
   go_wp2_with fail
   refine ⟨rfl,?_⟩
   rw [HR.out]
   exact HE.out.relay ((Chg.refl _ _).alloc _)
  | true=>
   have hk : ((t.kind.num:Int) != 2)=false:=by cases hq : t.kind <;> simp_all [Kind.num]
   have HW:=Lib.hid (of_decide_eq_true hkd)
   clear h hkd
   rcases hpi:Lib.parseIntB 64 t.text with v | _ | _
   ·skip
    have HV:Hid (∀ e,IntOf t.text e→e = .returned (.tuple #[.int .i64 v,.nilIface])):=Lib.hid (fun e he=>by rw [IntOf,hpi] at he; exact he)
    cases hmost : decide (most < v) with
    | true=>
     have HR:=Lib.hid (show number z most (t :: r) = .bad 4 t.pos by rw [number,if_neg (by simp [HW.out]),hpi]; exact if_pos (of_decide_eq_true hmost))
     clear hpi
     go_enter Tryz.func61,Tryz.ntmps61
     go_wp2_with fail
     refine HI.out.mono ?_; intro e w1 he
     obtain rfl:=HV.out e he.2
     have HC:=Lib.hid he.1; clear he
     go_wp2_with fail
     refine (fail_any 4 _ B bp bt z (t :: r) (HP.out.kept HC.out (by simp) (by simp) (by simp))).mono ?_; intro e w2 he
     have HE:=Lib.hid he
     obtain ⟨b,rfl⟩:=he.thrown
     clear he
     go_wp2_with fail
     refine ⟨rfl,?_⟩
     rw [HR.out]
     exact HE.out.relay (((Chg.refl [bp] w).alloc _).then HC.out.weak)
    | false=>
     have HR:=Lib.hid (show number z most (t :: r) = .ok v r by rw [number,if_neg (by simp [HW.out]),hpi]; exact if_neg (of_decide_eq_false hmost))
     have hl:=HB.out.2
     clear hpi
     go_enter Tryz.func61,Tryz.ntmps61
     go_wp2_with fail
     refine HI.out.mono ?_; intro e w1 he
     obtain rfl:=HV.out e he.2
     obtain ⟨d0,d1,d2,hc0⟩:=tok_new he.1
     clear he
     have hb1:=HB.out.1.kept hc0 (by simp)
     have e0:=hb1.cell 0 _ rfl
     have ef:=hb1.frozen 0
     have hp1:=H.out.kept hc0 (by simp) (by simp) (by simp)
     have HT1:=Lib.hid (par_tail hp1 hb1 HB.out.2 (fun i v hi=>hc0.cellSome (HS.out i v hi) (by simp)))
     have HC0:=Lib.hid hc0; clear hc0 hp1 hb1
     go_wp2_with fail
     go_ret
     rw [HR.out]
     exact ⟨HC0.out.weak.then HT1.out.2,_,rfl,rfl,HT1.out.1⟩
   ·skip
    have HV:Hid (∀ e,IntOf t.text e → ∃ n T b,e = .returned (.tuple #[.int .i64 n,.iface T (.pointer (some ⟨b,0,none⟩))])):=Lib.hid (fun e he=>by rw [IntOf,hpi] at he; exact he)
    have HR:=Lib.hid (show number z most (t :: r) = .bad 4 t.pos by rw [number,if_neg (by simp [HW.out]),hpi])
    clear hpi
    go_enter Tryz.func61,Tryz.ntmps61
    go_wp2_with fail
    refine HI.out.mono ?_; intro e w1 he
    obtain ⟨nn,T,bb,rfl⟩:=HV.out e he.2
    have HC:=Lib.hid he.1; clear he
    go_wp2_with fail
    refine (fail_any 4 _ B bp bt z (t :: r) (HP.out.kept HC.out (by simp) (by simp) (by simp))).mono ?_; intro e w2 he
    have HE:=Lib.hid he
    obtain ⟨b,rfl⟩:=he.thrown
    clear he
    go_wp2_with fail
    refine ⟨rfl,?_⟩
    rw [HR.out]
    exact HE.out.relay (((Chg.refl [bp] w).alloc _).then HC.out.weak)
   ·skip
    have HV:Hid (∀ e,IntOf t.text e → ∃ n T b,e = .returned (.tuple #[.int .i64 n,.iface T (.pointer (some ⟨b,0,none⟩))])):=Lib.hid (fun e he=>by rw [IntOf,hpi] at he; exact he)
    have HR:=Lib.hid (show number z most (t :: r) = .bad 4 t.pos by rw [number,if_neg (by simp [HW.out]),hpi])
    clear hpi
    go_enter Tryz.func61,Tryz.ntmps61
    go_wp2_with fail
    refine HI.out.mono ?_; intro e w1 he
    obtain ⟨nn,T,bb,rfl⟩:=HV.out e he.2
    have HC:=Lib.hid he.1; clear he
    go_wp2_with fail
    refine (fail_any 4 _ B bp bt z (t :: r) (HP.out.kept HC.out (by simp) (by simp) (by simp))).mono ?_; intro e w2 he
    have HE:=Lib.hid he
    obtain ⟨b,rfl⟩:=he.thrown
    clear he
    go_wp2_with fail
    refine ⟨rfl,?_⟩
    rw [HR.out]
    exact HE.out.relay (((Chg.refl [bp] w).alloc _).then HC.out.weak)
end Go.Proofs.YtilhhkokdfajiaaGreatDoor
namespace Go.Mq.Tree
open Go Go.RowKit Go.Mq
theorem name_len {z:Nat} {ts r:List Tok} {n:List UInt8} (h : name z ts = .ok n r) : r.length + 1=ts.length:=by
 cases ts with
 | nil=>cases h
 | cons t l=>
  rw [name] at h
  split at h
  ·cases h
  ·split at h
   ·cases h
   ·cases h; rfl
theorem see_tail {s:List UInt8} {ts:List Tok} (h : see s ts=true) : ts.tail.length + 1=ts.length:=by
 cases ts with
 | nil=>cases h
 | cons t r=>rfl
theorem skip_le (s:List UInt8) (ts:List Tok) : (skip s ts).length≤ts.length:=by
 unfold skip; split <;> simp
theorem Par.bp_lt {w:World} {B bp bt z:Nat} {ts:List Tok} (h:Par w B bp bt z ts) : bp < w.heap.size:=by
 obtain ⟨off,c,hb,_⟩:=h.at_
 exact hb.lt
theorem Par.bt_lt {w:World} {B bp bt z:Nat} {ts:List Tok} (h:Par w B bp bt z ts) : bt < w.heap.size:=by
 obtain ⟨off,c,_,_,hc⟩:=h.at_
 cases ts with
 | nil=>exact lt_of_cell (hc 0 _ rfl)
 | cons t r=>exact lt_of_cell (hc 0 _ rfl)
theorem grow_step {w wr w2 w':World} {B bp bt z:Nat} {r:List Tok} {v v':Value} {o:Obj} (hB:B≤w.heap.size) (hbp : bp < w.heap.size) (hbt : bt < w.heap.size)
  (hC:Chg [bp] w wr) (hN:Chg [bp] wr w2) (hP:Par w2 B bp bt z r) (hF:From w.heap.size v) (hch:Chg (blk v) (w2.alloc o) w') (hm:Moved (w2.alloc o) v v') :
  Par w' B bp bt z r∧Chg [bp] w w'∧From w.heap.size v':=by
 have hs:=(hC.then hN).size
 refine ⟨(hP.kept ((Chg.refl [] w2).alloc o) (by simp) (by simp) (by simp)).kept hch (fun x hx=>Nat.le_trans hB (hF x hx)) (fun hm=>by have:=hF _ hm; omega) (fun hm=>by have:=hF _ hm; omega),?_,hF.moved hm (by simp; omega)⟩
 exact ((hC.then hN).alloc o).trans hch (fun x hx=>.inr (hF x hx))
def lenOf:Value→Nat
 | .slice _ n _=>n
 | _=>0
theorem lenOf_owns {w:World} {e:TypeId} {size n:Nat} {v:Value} {xs:List Value} (h : w.ownsRow 0 e size v n xs) : lenOf v=n:=by
 rcases h.2 with ⟨rfl,rfl⟩ | ⟨g,cap,cur,rfl,_⟩ <;> rfl
theorem slice_of_owns {w:World} {e:TypeId} {size n:Nat} {v:Value} {xs:List Value} (h : w.ownsRow 0 e size v n xs) : ∃ a c,v = .slice a n c:=by
 rcases h.2 with ⟨rfl,rfl⟩ | ⟨g,cap,cur,rfl,_⟩
 ·exact ⟨_,_,rfl⟩
 ·exact ⟨_,_,rfl⟩
theorem new_owns {w w':World} {e:TypeId} {size n:Nat} {v:Value} {xs:List Value} (h : w'.ownsRow 0 e size v n xs) (hF:From w.heap.size v) : ∀ g∈blk v,New w w' g:=fun g hg=>⟨hF g hg,owns_lt h g hg⟩
end Go.Mq.Tree
namespace Go.Proofs.YtilhhkokdfajiaaGreatDoor
open Go Go.RowKit Go.Mq Go.Mq.Tree
set_option maxRecDepth 100000
set_option maxHeartbeats 4000000
theorem infoStr : (Tryz.prog.info? 9).map (fun i=>(i.zero,i.size,i.bytes))=some (some (.string ⟨#[]⟩),1,16):=by kernel_rfl
theorem names_any (most:Nat) (_hmost : most≤1000) (w:World) (B bp bt z:Nat) (ts:List Tok) (h:Par w B bp bt z ts) :
  Calls Tryz.prog 38 #[ptr bp,.int .i64 most] w (Ended w B bp bt z (names z most ts) (fun w' l v=>NamesAt w' (New w w') l v)):=by
 have H:=Lib.hid h
 have hB:=h.laid.le
 have hbp:=h.bp_lt
 have hbt:=h.bt_lt
 clear h
 go_enter Tryz.func38,Tryz.ntmps38
 go_wp2_with fail
 go_loopw [5,6] (fun l m wr=>∃ (f:Nat) (b:Bool) (acc:List (List UInt8)) (ts':List Tok),m = .bool b∧names z most ts=(if b then namesL z most f acc ts' else .ok acc ts')∧(b=true→f + acc.length=most + 1)∧acc.length≤most∧acc.length + ts'.length≤600 ∧
   Par wr B bp bt z ts'∧wr.ownsRow 0 9 1 l acc.length (acc.map str)∧From w.heap.size l∧Chg [bp] w wr) (fun l _ _=>most + 1 - lenOf l)
 case atStart=>exact ⟨most + 1,true,[],ts,rfl,rfl,fun _=>rfl,Nat.zero_le _,by simpa using H.out.few,H.out,World.ownsRow_nil _ _ _ _,From.nil _,Chg.refl _ _⟩
 case round=>
  obtain ⟨f,b,acc,ts',rfl,hr,hf,ha,hlen,hp,ho,hF,hC⟩:=hrel
  have HR:=Lib.hid hr; have HP:=Lib.hid hp; have HO:=Lib.hid ho; have HF:=Lib.hid hF; have HC:=Lib.hid hC
  obtain ⟨sa,sc,hs⟩:=slice_of_owns ho
  clear hr hp ho hF hC
  cases b with
  | false=>
   clear hf
   go_wp2_with fail
   go_ret
   rw [HR.out]
   refine ⟨HC.out,_,rfl,?_,HP.out⟩
   obtain ⟨a,c,rfl,hac,hrow⟩:=Row.of_owns (HO.out) (new_owns HO.out HF.out)
   exact ⟨a,c,by simp,by simpa using hac,hrow⟩
  | true=>
   have hf:=hf rfl
   subst hs
   obtain ⟨f,rfl⟩ : ∃ f',f=f' + 1:=⟨f - 1,by omega⟩
   cases he : decide (acc.length=most) with
   | true=>
    have he1 : ((acc.length:Int) == (most:Int))=true:=by have:=of_decide_eq_true he; simp [this]
    have HRR:=Lib.hid (show names z most ts = .bad 4 (hd z ts') by rw [HR.out,if_pos rfl,namesL,if_pos (of_decide_eq_true he)])
    clear he
    go_wp2_with fail
    refine (fail_any 4 _ B bp bt z ts' HP.out).mono ?_; intro e w2 he
    have HE:=Lib.hid he
    obtain ⟨b,rfl⟩:=he.thrown
    clear he
    go_wp2_with fail
    refine ⟨rfl,?_⟩
    rw [HRR.out]
    exact HE.out.relay HC.out
   | false=>
    have he1 : ((acc.length:Int) == (most:Int))=false:=by have:=of_decide_eq_false he; simp; omega
    have hne:=of_decide_eq_false he
    have HN:=Lib.hid (name_any _ B bp bt z ts' HP.out)
    clear he
    cases hn : name z ts' with
    | bad en p=>
     have HRR:=Lib.hid (show names z most ts = .bad en p by rw [HR.out,if_pos rfl,namesL,if_neg hne,hn])
     rw [hn] at HN
     clear hn hne
     go_wp2_with fail
     refine HN.out.mono ?_; intro e w2 he
     have HE:=Lib.hid he
     obtain ⟨b,rfl⟩:=he.thrown
     clear he
     go_wp2_with fail
     refine ⟨rfl,?_⟩
     rw [HRR.out]
     exact HE.out.relay HC.out
    | ok n r=>
     have hnl:=name_len hn
     have ha1 : acc.length + 1≤most:=by omega
     have HRR:=Lib.hid (show names z most ts=if see [44] r then namesL z most f (acc ++ [n]) r.tail else .ok (acc ++ [n]) r by rw [HR.out,if_pos rfl,namesL,if_neg hne,hn])
     rw [hn] at HN
     clear hn hne
     go_wp2_with fail
     refine HN.out.mono ?_; rintro e w2 ⟨hc2,_,rfl,rfl,hp2⟩
     have HC2:=Lib.hid hc2; have HP2:=Lib.hid hp2
     have ho2:=owns_kept HO.out ((hc2.alloc (.cells #[str n] 9))) (fun g hg hm=>by have:=HF.out g hg; simp at hm; omega)
     have HO2:=Lib.hid ho2
     clear hc2 hp2 ho2
     go_wp2_with (at_builtin; go_must (refine wpL_append rfl _ _ 22 rfl 9 _ 1 16 infoStr Tryz.underlying22 rfl (by decide) _ _ _ rfl HO2.out ⟨w2.heap.size,0,none⟩ 1 1 [_] rfl rfl (cell_new1 _ _ _) (by simp [Value.oneCell']) ?_ ?_ ?_))
     ·omega
     ·unfold maxLen; omega
     ·intro v' w' hown' hch' hmv'
      have HO':=Lib.hid hown'; clear hown'
      obtain ⟨hp3,hc3,hf3⟩:=grow_step hB hbp hbt HC.out HC2.out HP2.out HF.out hch' hmv'
      have HP3:=Lib.hid hp3; have HC3:=Lib.hid hc3; have HF3:=Lib.hid hf3
      clear hch' hmv' hp3 hc3 hf3
      go_wp2_with fail
      refine (take_any [44] _ B bp bt z r HP3.out).mono ?_; rintro e w4 ⟨rfl,hp4,hc4,_⟩
      have HP4:=Lib.hid hp4; have HC4:=Lib.hid hc4
      clear hp4 hc4
      go_wp2_with fail
      have ho4:=owns_kept HO'.out HC4.out (fun g hg hm=>by have:=HF3.out g hg; simp at hm; omega)
      have hl4 : lenOf v'=acc.length + 1:=lenOf_owns HO'.out
      have hsk : (skip [44] r).length≤r.length:=skip_le _ _
      refine ⟨⟨f,see [44] r,acc ++ [n],skip [44] r,rfl,?_,fun _=>by simp; omega,by simp; omega,by simp; omega,HP4.out,by simpa using ho4,HF3.out,HC3.out.then HC4.out⟩,?_⟩
      ·rw [HRR.out]; unfold skip; split <;> rfl
      ·rw [hl4]; simp only [lenOf]; omega
end Go.Proofs.YtilhhkokdfajiaaGreatDoor
namespace Go.Proofs.YtilhhkokdfajiaaGreatDoor
open Go Go.RowKit Go.Mq Go.Mq.Tree
set_option maxRecDepth 100000
set_option maxHeartbeats 4000000
theorem op_any (k:Nat) (lv:List (List UInt8)) (hk : levels[k]?=some lv) (w:World) (B bp bt z:Nat) (ts:List Tok) (h:Par w B bp bt z ts) :
  Calls Tryz.prog 98 #[ptr bp,.int .i64 k] w (fun e w'=>e = .returned (str ((opOf lv ts).getD []))∧w'=w):=by
 have H:=Lib.hid h
 obtain ⟨b,off,c,c0,_,hc,hcell⟩:=h.laid.levels k lv hk
 have hk5 : k < 5:=(List.getElem?_eq_some_iff.1 hk).1
 have hlv : lv.length≤6:=by
  have : ∀ l∈levels,l.length≤6:=by decide
  exact this lv (List.mem_of_getElem? hk)
 have HCE:=Lib.hid hcell
 clear h hcell hk
 go_enter Tryz.func98,Tryz.ntmps98
 go_wp2_with fail
 go_loopw [6,11] (fun _ i wr=>∃ n:Nat,n≤lv.length∧i = .int .i64 n∧wr=w∧opOf lv ts=(lv.drop n).find? (fun m=>see m ts)) (fun _ i _=>10 - (intOf i).toNat)
 case atStart=>exact ⟨0,Nat.zero_le _,rfl,rfl,rfl⟩
 case round=>
  obtain ⟨n,hn,rfl,rfl,hr⟩:=hrel
  have HR:=Lib.hid hr; clear hr
  by_cases hlt : n < lv.length
  ·have hm : lv[n]?=some lv[n]:=List.getElem?_eq_getElem hlt
   have hcl:=HCE.out n _ hm
   have HS:=Lib.hid (see_any lv[n] wr B bp bt z ts H.out)
   cases hs : see lv[n] ts with
   | true=>
    have HRR:=Lib.hid (show opOf lv ts=some lv[n] by rw [HR.out,List.drop_eq_getElem_cons hlt,List.find?_cons,hs])
    have HI:=Lib.hid hs
    clear hs
    go_wp2_with fail
    refine HS.out.mono ?_; rintro _ w2 ⟨rfl,rfl⟩
    rw [HI.out]
    go_wp2_with fail
    go_ret
    rw [HRR.out]
    exact ⟨rfl,rfl⟩
   | false=>
    have HRR:=Lib.hid (show opOf lv ts=(lv.drop (n + 1)).find? (fun m=>see m ts) by rw [HR.out,List.drop_eq_getElem_cons hlt,List.find?_cons,hs])
    have HI:=Lib.hid hs
    clear hs
    go_wp2_with fail
    refine HS.out.mono ?_; rintro _ w2 ⟨rfl,rfl⟩
    rw [HI.out]
    go_wp2_with fail
    exact ⟨⟨n + 1,by omega,by go_num,by first | rfl | trivial,HRR.out⟩,by simp [intOf]; omega⟩
  ·have hge : n=lv.length:=by omega
   have HRR:=Lib.hid (show opOf lv ts=none by rw [HR.out,hge,List.drop_length]; rfl)
   go_wp2_with fail
   go_ret
   rw [HRR.out]
   exact ⟨rfl,rfl⟩
end Go.Proofs.YtilhhkokdfajiaaGreatDoor
namespace Go.Mq.Tree
open Go Go.RowKit Go.Mq
def Mono {α:Type} (p:Ps α):Prop:=∀ ts a r,p ts = .ok a r→r.length≤ts.length
def Eats {α:Type} (p:Ps α):Prop:=∀ ts a r,p ts = .ok a r→r.length < ts.length
theorem Eats.mono {α:Type} {p:Ps α} (h:Eats p):Mono p:=fun ts a r hr=>Nat.le_of_lt (h ts a r hr)
theorem opOf_see {lv:List (List UInt8)} {ts:List Tok} {m:List UInt8} (h : opOf lv ts=some m) : see m ts=true:=by
 have:=List.find?_some h
 simpa using this
theorem binL_mono {sub:Ps E} (hs:Mono sub) (lv:List (List UInt8)) (p:Nat) : ∀ f x,Mono (binL sub lv p f x):=by
 intro f
 induction f with
 | zero=>intro x ts a r h; cases h
 | succ f ih=>
  intro x ts a r h
  rw [binL] at h
  cases ho : opOf lv ts with
  | none=>rw [ho] at h; cases h; exact Nat.le_refl _
  | some m=>
   rw [ho] at h
   have:=see_tail (opOf_see ho)
   cases hsub : sub ts.tail with
   | bad e q=>rw [hsub] at h; cases h
   | ok y r2=>
    rw [hsub] at h
    have h1:=hs _ _ _ hsub
    have h2:=ih _ _ _ _ h
    omega
theorem expr_mono {z:Nat} {base:Ps E} (hb:Mono base) : ∀ k,Mono (expr z base k):=by
 intro k
 induction k with
 | zero=>exact hb
 | succ k ih=>
  intro ts a r h
  rw [expr] at h
  simp only at h
  cases hx : expr z base k ts with
  | bad e q=>rw [hx] at h; cases h
  | ok x r2=>
   rw [hx] at h
   have h1:=ih _ _ _ hx
   have h2:=binL_mono ih _ _ _ _ _ _ _ h
   omega
theorem expr_eats {z:Nat} {base:Ps E} (hb:Eats base) : ∀ k,Eats (expr z base k):=by
 intro k
 induction k with
 | zero=>exact hb
 | succ k ih=>
  intro ts a r h
  rw [expr] at h
  simp only at h
  cases hx : expr z base k ts with
  | bad e q=>rw [hx] at h; cases h
  | ok x r2=>
   rw [hx] at h
   have h1:=ih _ _ _ hx
   have h2:=binL_mono ih.mono _ _ _ _ _ _ _ h
   omega
def stepE (sub:Ps E) (lv:List (List UInt8)) (z:Nat):Ps E:=fun ts=>match sub ts with
 | .bad e p=>.bad e p
 | .ok x r=>binL sub lv (hd z ts) (r.length + 1) x r
def cntOf (w:World) (bp:Nat):Nat:=match w.cell? ⟨bp,0,none⟩ with
 | some v=>lenOf v
 | none=>0
theorem Par.cnt {w:World} {B bp bt z:Nat} {ts:List Tok} (h:Par w B bp bt z ts) : cntOf w bp=ts.length + 1:=by
 obtain ⟨off,c,hb,_⟩:=h.at_
 rw [cntOf,hb.cell 0 _ rfl]
 rfl
abbrev EV (w:World):World→E→Value→Prop:=fun w' e v=>EAt w' (New w w') e [v]
theorem EAt.grown {w w1 w2:World} {bp:Nat} {e:E} {us:List Value} (h:EAt w1 (New w w1) e us) (hbp : bp < w.heap.size) (hc:Chg [bp] w1 w2):EAt w2 (New w w2) e us:=
 (h.kept hc (fun x hx hn=>by simp at hx; have:=hn.1; omega)).mono fun x hx=>⟨hx.1,by have:=hc.size; have:=hx.2; omega⟩
theorem EAt.later {w w0 w1:World} {e:E} {us:List Value} (h:EAt w1 (New w0 w1) e us) (hs : w.heap.size≤w0.heap.size):EAt w1 (New w w1) e us:=h.mono fun _ hx=>⟨Nat.le_trans hs hx.1,hx.2⟩
theorem EAt.ptr {w:World} {F:Nat→Prop} {e:E} : ∀ {v:Value},EAt w F e [v] → ∃ b,v=ptr b:=by
 induction e with
 | num p n=>rintro v ⟨b,h1,_⟩; cases h1; exact ⟨b,rfl⟩
 | var p m n=>rintro v ⟨b,h1,_⟩; cases h1; exact ⟨b,rfl⟩
 | item p m n i ih=>rintro v ⟨b,u,h1,_⟩; cases h1; exact ⟨b,rfl⟩
 | un p op x ih=>rintro v ⟨b,u,h1,_⟩; cases h1; exact ⟨b,rfl⟩
 | bin p op x y ih1 ih2=>rintro v ⟨b,u,v',h1,_⟩; cases h1; exact ⟨b,rfl⟩
 | app p m n l ih=>rintro v ⟨b,a,c,vs,h1,_⟩; cases h1; exact ⟨b,rfl⟩
 | nil=>intro v h; cases h
 | cons x r ih1 ih2=>rintro v ⟨u,vs,h1,h2,h3⟩; cases h1; exact ih1 h2
end Go.Mq.Tree
namespace Go.Proofs.YtilhhkokdfajiaaGreatDoor
open Go Go.RowKit Go.Mq Go.Mq.Tree
set_option maxRecDepth 100000
set_option maxHeartbeats 4000000
def OneOK (deep d:Nat):Prop:=∀ (w:World) (B bp bt z:Nat) (ts:List Tok),Par w B bp bt z ts→Calls Tryz.prog 97 #[ptr bp,.int .i64 deep] w (Ended w B bp bt z (one z d ts) (EV w))
def ExOK (level deep:Nat) (ex:Nat→Ps E):Prop:=∀ (w:World) (B bp bt z:Nat) (ts:List Tok),Par w B bp bt z ts→Calls Tryz.prog 83 #[ptr bp,.int .i64 level,.int .i64 deep] w (Ended w B bp bt z (ex z ts) (EV w))
theorem lv_some {lv:List (List UInt8)} {m:List UInt8} {k:Nat} (h : levels[k]?=some lv) (hm : m∈lv) : m≠[]:=by
 have : ∀ l∈levels,∀ m∈l,m≠[]:=by decide
 exact this lv (List.mem_of_getElem? h) m hm
theorem expr_base (deep d:Nat) (hO:OneOK deep d):ExOK 5 deep (fun z=>one z d):=by
 intro w B bp bt z ts h
 have HO:=Lib.hid (hO w B bp bt z ts h)
 have H:=Lib.hid h
 clear h hO
 go_enter Tryz.func83,Tryz.ntmps83
 go_wp2_with fail
 refine HO.out.mono ?_; intro e w1 he
 cases hr : one z d ts with
 | bad en p=>
  rw [hr] at he
  have HE:=Lib.hid he
  obtain ⟨b,rfl⟩:=he.thrown
  clear he
  go_wp2_with fail
  exact ⟨rfl,HE.out⟩
 | ok x r=>
  rw [hr] at he
  have HE:=Lib.hid he
  obtain ⟨_,v,rfl,_⟩:=he
  go_wp2_with fail
  go_ret
  first | exact HE.out | (rw [hr]; exact HE.out)
theorem expr_step (level deep:Nat) (hl : level < 5) (sub:Nat→Ps E) (hmono : ∀ z,Mono (sub z)) (hS:ExOK (level + 1) deep sub) (lv:List (List UInt8)) (hlv : levels[level]?=some lv) (_hdp : deep≤11) :
  ExOK level deep (fun z=>stepE (sub z) lv z):=by
 intro w B bp bt z ts h
 have hS' : ∀ (w:World) (B bp bt z:Nat) (ts:List Tok),Par w B bp bt z ts→Calls Tryz.prog 83 #[ptr bp,.int .i64 ((level:Int) + 1),.int .i64 deep] w (Ended w B bp bt z (sub z ts) (EV w)):=fun w B bp bt z ts h=>by
  have:=hS w B bp bt z ts h
  simpa using this
 have HS:=Lib.hid (hS' w B bp bt z ts h)
 have HSS:=Lib.hid hS'
 have H:=Lib.hid h
 have HLV:=Lib.hid hlv
 have key : ∃ off c n,w.cell? ⟨bp,0,none⟩=some (.slice (some ⟨bt,off,none⟩) (n + 1) c)∧w.cell? ⟨bt,off + 2,none⟩=some (.int .i64 (hd z ts)):=by
  cases ts with
  | nil=>obtain ⟨off,c,c0,_,c2,_⟩:=par_nil h; exact ⟨off,c,0,c0,c2⟩
  | cons t r=>obtain ⟨off,c,_,c0,_,_,c2,_⟩:=par_cons h; exact ⟨off,c,r.length + 1,c0,c2⟩
 obtain ⟨off,c,n,c0,c2⟩:=key
 have hbp:=h.bp_lt
 have HM:=Lib.hid (hmono z)
 have hne5 : ((level:Int) == 5)=false:=by simp; omega
 have hwr:IntKind.i64.wrap ((level:Int) + 1)=(level:Int) + 1:=by
  simp only [IntKind.wrap,IntKind.bits,IntKind.signed]; simp; omega
 clear h hS hS' hlv hmono
 cases hr : sub z ts with
 | bad en p=>
  rw [hr] at HS
  have HR:=Lib.hid hr; clear hr
  go_enter Tryz.func83,Tryz.ntmps83
  go_wp2_with fail
  refine HS.out.mono ?_; intro e w1 he
  have HE:=Lib.hid he
  obtain ⟨b,rfl⟩:=he.thrown
  clear he
  go_wp2_with fail
  refine ⟨rfl,?_⟩
  rw [stepE,HR.out]
  exact HE.out
 | ok x r=>
  rw [hr] at HS
  have HR:=Lib.hid hr; clear hr
  go_enter Tryz.func83,Tryz.ntmps83
  go_wp2_with fail
  refine HS.out.mono ?_; rintro e w1 ⟨hc1,v,rfl,hv,hp1⟩
  have HC1:=Lib.hid hc1; have HV:=Lib.hid hv; have HP1:=Lib.hid hp1
  clear hc1 hv hp1
  go_wp2_with fail
  refine (op_any level lv HLV.out w1 B bp bt z r HP1.out).mono ?_; rintro _ w2 ⟨rfl,rfl⟩
  go_wp2_with fail
  go_loopw [8,9] (fun v op wr=>∃ (f:Nat) (x':E) (ts':List Tok),op=str ((opOf lv ts').getD [])∧binL (sub z) lv (hd z ts) (r.length + 1) x r=binL (sub z) lv (hd z ts) f x' ts'∧ts'.length < f∧EAt wr (New w wr) x' [v]∧Par wr B bp bt z ts'∧Chg [bp] w wr) (fun _ _ wr=>cntOf wr bp)
  case atStart=>exact ⟨r.length + 1,x,r,rfl,rfl,Nat.lt_succ_self _,HV.out,HP1.out,HC1.out⟩
  case round=>
   obtain ⟨f,x',ts',rfl,hb,hf,hx,hp,hc⟩:=hrel
   have HB:=Lib.hid hb; have HX:=Lib.hid hx; have HP:=Lib.hid hp; have HC:=Lib.hid hc
   clear hb hx hp hc
   obtain ⟨f,rfl⟩ : ∃ f',f=f' + 1:=⟨f - 1,by omega⟩
   cases ho : opOf lv ts' with
   | none=>
    have HO:=Lib.hid ho; clear ho
    simp only [Option.getD_none]
    go_wp2_with fail
    go_ret
    simp only [stepE,HR.out]
    rw [HB.out,binL,HO.out]
    exact ⟨HC.out,_,rfl,HX.out,HP.out⟩
   | some m=>
    have hm:=lv_some HLV.out (List.mem_of_find?_eq_some ho)
    have HO:=Lib.hid ho
    have hsee:=opOf_see ho
    have HMU:=Lib.hid (must_any m _ B bp bt z ts' HP.out)
    rw [must,hsee,if_pos rfl] at HMU
    have hst:=see_tail hsee
    clear ho hsee
    simp only [Option.getD_some]
    have hm1 : m.isEmpty=false:=by cases m; exact absurd rfl hm; rfl
    go_wp2_with fail
    refine HMU.out.mono ?_; rintro _ w3 ⟨hc3,_,rfl,rfl,hp3⟩
    have HC3:=Lib.hid hc3; have HP3:=Lib.hid hp3
    clear hc3 hp3
    have hS3:=HSS.out w3 B bp bt z ts'.tail HP3.out
    cases hsub : sub z ts'.tail with
    | bad en p=>
     rw [hsub] at hS3
     have HS3:=Lib.hid hS3
     have HRR:=Lib.hid (show stepE (sub z) lv z ts = .bad en p by simp only [stepE,HR.out]; rw [HB.out,binL,HO.out]; simp only [hsub])
     clear hS3 hsub
     go_wp2_with fail
     refine HS3.out.mono ?_; intro e w4 he
     have HE:=Lib.hid he
     obtain ⟨b,rfl⟩:=he.thrown
     clear he
     go_wp2_with fail
     refine ⟨rfl,?_⟩
     rw [HRR.out]
     exact HE.out.relay (HC.out.then HC3.out)
    | ok y r2=>
     rw [hsub] at hS3
     have HS3:=Lib.hid hS3
     have hr2:=HM.out _ _ _ hsub
     have HRR:=Lib.hid (show binL (sub z) lv (hd z ts) (f + 1) x' ts'=binL (sub z) lv (hd z ts) f (.bin (hd z ts) m x' y) r2 by rw [binL,HO.out]; simp only [hsub])
     clear hS3 hsub
     go_wp2_with fail
     refine HS3.out.mono ?_; rintro e w4 ⟨hc4,v2,rfl,hv2,hp4⟩
     obtain ⟨b2,rfl⟩:=hv2.ptr
     obtain ⟨b1,rfl⟩:=HX.out.ptr
     have HC4:=Lib.hid hc4; have HV2:=Lib.hid hv2; have HP4:=Lib.hid hp4
     clear hc4 hv2 hp4
     go_wp2_with fail
     refine (op_any level lv HLV.out _ B bp bt z r2 (HP4.out.kept ((Chg.refl [] w4).alloc _) (by simp) (by simp) (by simp))).mono ?_; rintro _ w5 ⟨rfl,rfl⟩
     have hx4:=(HX.out.grown hbp (HC3.out.then HC4.out))
     have hs4 : w.heap.size≤w3.heap.size:=(HC.out.then HC3.out).size
     have hy4:=EAt.later HV2.out hs4
     have hs5 : w.heap.size≤w4.heap.size:=Nat.le_trans hs4 HC4.out.size
     have HX4:=Lib.hid hx4; have HY4:=Lib.hid hy4
     clear hx4 hy4
     go_wp2_with fail
     refine ⟨⟨f,.bin (hd z ts) m x' y,r2,rfl,HB.out.trans HRR.out,by omega,?_,HP4.out.kept ((Chg.refl [] w4).alloc _) (by simp) (by simp) (by simp),((HC.out.then HC3.out).then HC4.out).alloc _⟩,?_⟩
     ·have hca:Chg [bp] w4 (w4.alloc (.cells #[.int .i64 5,.int .i64 (hd z ts),.int .i64 0,str [],str [],str m,ptr b1,ptr b2,nils] 83)):=(Chg.refl _ _).alloc _
      exact ⟨w4.heap.size,ptr b1,ptr b2,rfl,⟨hs5,by simp⟩,Blk.new _ _ _,HX4.out.grown hbp hca,HY4.out.grown hbp hca⟩
     ·rw [(HP4.out.kept ((Chg.refl [] w4).alloc _) (by simp) (by simp) (by simp)).cnt,HP.out.cnt]
      omega
theorem expr_level (deep d:Nat) (hO:OneOK deep d) (hmono : ∀ z,Mono (one z d)) (hdp : deep≤11) : ∀ k,k≤5→ExOK (5 - k) deep (fun z=>expr z (one z d) k):=by
 intro k
 induction k with
 | zero=>exact fun _=>expr_base deep d hO
 | succ k ih=>
  intro hk
  have hlv : levels[5 - (k + 1)]?=some (levels.getD (4 - k) []):=by
   rw [show 5 - (k + 1)=4 - k by omega]
   have : 4 - k < levels.length:=by show 4 - k < 5; omega
   simp [this]
  have hS:ExOK (5 - (k + 1) + 1) deep (fun z=>expr z (one z d) k):=by rw [show 5 - (k + 1) + 1=5 - k by omega]; exact ih (by omega)
  exact expr_step (5 - (k + 1)) deep (by omega) (fun z=>expr z (one z d) k) (fun z=>expr_mono (hmono z) k) hS _ hlv hdp
end Go.Proofs.YtilhhkokdfajiaaGreatDoor
namespace Go.Mq.Tree
open Go Go.RowKit Go.Mq
structure Framed (Q:World→(Nat→Prop)→Prop):Prop where
 mono : ∀ {w:World} {F G:Nat→Prop},(∀ x,F x→G x)→Q w F→Q w G
 kept : ∀ {S:List Nat} {w w':World} {F:Nat→Prop},Chg S w w'→(∀ x∈S,¬ F x)→Q w F→Q w' F
def Off (w wr:World) (l:Value):Nat→Prop:=fun b=>w.heap.size≤b∧b < wr.heap.size∧b∉blk l
section
variable {Q:World→(Nat→Prop)→Prop} {w wr w2 w3 w':World} {l l':Value} {o:Obj}
theorem Framed.call (hQ:Framed Q) {bp:Nat} (h:Q wr (Off w wr l)) (hc:Chg [bp] wr w2) (hbp : bp < w.heap.size):Q w2 (Off w w2 l):=
 hQ.mono (fun x hx=>⟨hx.1,by have:=hc.size; have:=hx.2.1; omega,hx.2.2⟩) (hQ.kept hc (fun x hx hn=>by simp at hx; have:=hn.1; omega) h)
theorem Framed.fresh (hQ:Framed Q) (h:Q w2 (New w3 w2)) (hl : ∀ g∈blk l,g < w3.heap.size) (hs : w.heap.size≤w3.heap.size):Q w2 (Off w w2 l):=
 hQ.mono (fun x hx=>⟨Nat.le_trans hs hx.1,hx.2,fun hm=>by have:=hl x hm; have:=hx.1; omega⟩) h
theorem Framed.app (hQ:Framed Q) (h:Q w2 (Off w w2 l)) (hch:Chg (blk l) (w2.alloc o) w') (hm:Moved (w2.alloc o) l l'):Q w' (Off w w' l'):=by
 refine hQ.mono (fun x hx=>⟨hx.1,by have h1 : w2.heap.size≤(w2.alloc o).heap.size:=(by simp); have:=hch.size; have:=hx.2.1; omega,fun hm'=>?_⟩) (hQ.kept (((Chg.refl [] w2).alloc o).weak.then hch) (fun x hx hn=>hn.2.2 hx) h)
 rcases hm x hm' with h1 | h1
 ·exact hx.2.2 h1
 ·have:=hx.2.1; simp at h1; omega
theorem Framed.done (hQ:Framed Q) (h:Q wr (Off w wr l)):Q wr (New w wr):=hQ.mono (fun _ hx=>⟨hx.1,hx.2.1⟩) h
end
theorem framed_E (e:E) (us:List Value):Framed (fun w F=>EAt w F e us):=⟨fun hF h=>h.mono hF,fun hc hS h=>h.kept hc hS⟩
theorem framed_Es (l:List E) (us:List Value):Framed (fun w F=>EsAt w F l us):=⟨fun hF h=>h.mono hF,fun hc hS h=>h.kept hc hS⟩
theorem framed_S (s:S) (cs:List Value):Framed (fun w F=>SAt w F s cs):=⟨fun hF h=>h.mono hF,fun hc hS h=>h.kept hc hS⟩
theorem framed_Prs (l:List Proc) (cs:List Value):Framed (fun w F=>PrsAt w F l cs):=⟨fun hF h=>h.mono hF,fun hc hS h=>h.kept hc hS⟩
def ArgsAt (w:World) (F:Nat→Prop) (l:List E) (v:Value):Prop:=∃ a c vs,v = .slice a vs.length c∧vs.length≤c∧Row w F a vs∧EsAt w F l vs
theorem argsL_mono {z:Nat} {ex:Ps E} (hs:Eats ex) : ∀ f first l,Mono (argsL z ex f first l):=by
 intro f
 induction f with
 | zero=>intro first l ts a r h; cases h
 | succ f ih=>
  intro first l ts a r h
  rw [argsL] at h
  cases h1 : see [41] ts with
  | true=>rw [h1,if_pos rfl] at h; cases h; simp
  | false=>
   rw [h1,if_neg (by simp)] at h
   split at h
   ·cases h
   ·split at h
    ·cases h
    ·rename_i x r2 hx
     have g1:=hs _ _ _ hx
     have g2:=ih _ _ _ _ _ h
     have g3 : (if first=true then ts else ts.tail).length≤ts.length:=by split <;> simp
     omega
end Go.Mq.Tree
namespace Go.Proofs.YtilhhkokdfajiaaGreatDoor
open Go Go.RowKit Go.Mq Go.Mq.Tree
set_option maxRecDepth 100000
set_option maxHeartbeats 4000000
theorem infoPtr : (Tryz.prog.info? 80).map (fun i=>(i.zero,i.size,i.bytes))=some (some (.pointer none),1,8):=by kernel_rfl
theorem ex_next {deep:Nat} {ex:Nat→Ps E} (h:ExOK 0 (deep + 1) ex) : ∀ (w:World) (B bp bt z:Nat) (ts:List Tok),Par w B bp bt z ts→Calls Tryz.prog 83 #[ptr bp,.int .i64 0,.int .i64 ((deep:Int) + 1)] w (Ended w B bp bt z (ex z ts) (EV w)):=fun w B bp bt z ts hp=>by
 have:=h w B bp bt z ts hp
 simpa using this
theorem wrap_next {deep:Nat} (h : deep≤11):IntKind.i64.wrap ((deep:Int) + 1)=(deep:Int) + 1:=by
 simp only [IntKind.wrap,IntKind.bits,IntKind.signed]; simp; omega
theorem args_any (deep:Nat) (hdp : deep≤11) (ex:Nat→Ps E) (hE:ExOK 0 (deep + 1) ex) (heats : ∀ z,Eats (ex z)) (w:World) (B bp bt z:Nat) (ts:List Tok) (h:Par w B bp bt z ts) (hsee : see [40] ts=true) :
  Calls Tryz.prog 112 #[ptr bp,.int .i64 deep] w (Ended w B bp bt z (argsL z (ex z) (ts.length + 1) true [] ts.tail) (fun w' l v=>ArgsAt w' (New w w') l v)):=by
 have HE:=Lib.hid (ex_next hE)
 have H:=Lib.hid h
 have HMU:=Lib.hid (must_any [40] w B bp bt z ts h)
 rw [must,hsee,if_pos rfl] at HMU
 have hB:=h.laid.le
 have hbp:=h.bp_lt
 have hbt:=h.bt_lt
 have hwr:=wrap_next hdp
 have hst:=see_tail hsee
 have hfew:=h.few
 have HM:=Lib.hid (heats z)
 clear h hE hsee heats
 go_enter Tryz.func112,Tryz.ntmps112
 go_wp2_with fail
 refine HMU.out.mono ?_; rintro _ w1 ⟨hc1,_,rfl,rfl,hp1⟩
 have HC1:=Lib.hid hc1; have HP1:=Lib.hid hp1
 clear hc1 hp1
 go_wp2_with fail
 go_loopw [5,6] (fun l m wr=>∃ (f:Nat) (b:Bool) (acc:List E) (vs:List Value) (ts':List Tok),m = .bool b∧argsL z (ex z) (ts.length + 1) true [] ts.tail=argsL z (ex z) f b acc ts'∧ts'.length < f∧acc.length + ts'.length≤600 ∧
   Par wr B bp bt z ts'∧wr.ownsRow 0 80 1 l acc.length vs∧EsAt wr (Off w wr l) acc vs∧From w.heap.size l∧Chg [bp] w wr) (fun _ _ wr=>cntOf wr bp)
 case atStart=>exact ⟨ts.length + 1,true,[],[],ts.tail,rfl,rfl,by omega,by simp; omega,HP1.out,World.ownsRow_nil _ _ _ _,rfl,From.nil _,HC1.out⟩
 case round=>
  obtain ⟨f,b,acc,vs,ts',rfl,hr,hf,hlen,hp,ho,hes,hF,hC⟩:=hrel
  have HR:=Lib.hid hr; have HP:=Lib.hid hp; have HO:=Lib.hid ho; have HES:=Lib.hid hes; have HF:=Lib.hid hF; have HC:=Lib.hid hC
  obtain ⟨sa,sc,hs⟩:=slice_of_owns ho
  clear hr hp ho hes hF hC
  subst hs
  obtain ⟨f,rfl⟩ : ∃ f',f=f' + 1:=⟨f - 1,by omega⟩
  have HT:=Lib.hid (take_any [41] wr B bp bt z ts' HP.out)
  cases hsc : see [41] ts' with
  | true=>
   have HRR:=Lib.hid (show argsL z (ex z) (ts.length + 1) true [] ts.tail = .ok acc ts'.tail by rw [HR.out,argsL,hsc,if_pos rfl])
   have HI:=Lib.hid hsc
   clear hsc
   go_wp2_with fail
   refine HT.out.mono ?_; rintro _ w2 ⟨rfl,hp2,hc2,_⟩
   rw [HI.out]
   rw [skip,HI.out,if_pos rfl] at hp2
   have HP2:=Lib.hid hp2; have HC2:=Lib.hid hc2
   clear hp2 hc2
   go_wp2_with fail
   go_ret
   rw [HRR.out]
   refine ⟨HC.out.then HC2.out,_,rfl,?_,HP2.out⟩
   have ho2:=owns_kept HO.out HC2.out (fun g hg hm=>by have:=HF.out g hg; simp at hm; omega)
   obtain ⟨a,c,he,hac,hrow⟩:=Row.of_owns ho2 (new_owns ho2 HF.out)
   have hln:=HES.out.len
   exact ⟨a,c,vs,by rw [hln]; exact he,by omega,hrow,(framed_Es acc vs).done ((framed_Es acc vs).call HES.out HC2.out hbp)⟩
  | false=>
   have HI:=Lib.hid hsc
   cases b with
   | true=>
    have hlt : ts'.length < f + 1:=hf
    have HRR:Hid (∀ q,ex z ts'=q→argsL z (ex z) (ts.length + 1) true [] ts.tail=match q with | .bad e p=>.bad e p | .ok x r=>argsL z (ex z) f false (acc ++ [x]) r):=Lib.hid (fun q hq=>by rw [HR.out,argsL,hsc,if_neg (by simp),if_neg (by simp),if_pos rfl,hq]; cases q <;> rfl)
    clear hsc
    have HEX:=Lib.hid (HE.out wr B bp bt z ts' HP.out)
    cases hx : ex z (ts') with
    | bad en p=>
     have HX:=Lib.hid hx
     rw [HX.out] at HEX
     clear hx
     go_wp2_with fail
     refine HT.out.mono ?_; rintro _ w2 ⟨rfl,_,_,hw⟩
     rw [HI.out]
     have hw':=(hw HI.out).symm
     subst hw'
     clear hw
     go_wp2_with fail
     refine HEX.out.mono ?_; intro e w4 he
     have HEE:=Lib.hid he
     obtain ⟨b,rfl⟩:=he.thrown
     clear he
     go_wp2_with fail
     refine ⟨rfl,?_⟩
     rw [HRR.out _ HX.out]
     exact HEE.out.relay (HC.out)
    | ok x r=>
     have HX:=Lib.hid hx
     have hxl:=HM.out _ _ _ hx
     rw [HX.out] at HEX
     clear hx
     go_wp2_with fail
     refine HT.out.mono ?_; rintro _ w2 ⟨rfl,_,_,hw⟩
     rw [HI.out]
     have hw':=(hw HI.out).symm
     subst hw'
     clear hw
     go_wp2_with fail
     refine HEX.out.mono ?_; rintro e w4 ⟨hc4,v4,rfl,hv4,hp4⟩
     obtain ⟨b4,rfl⟩:=hv4.ptr
     have HC4:=Lib.hid hc4; have HV4:=Lib.hid hv4; have HP4:=Lib.hid hp4
     have ho4:=owns_kept HO.out ((Chg.refl [bp] wr).then hc4) (fun g hg hm=>by have:=HF.out g hg; simp at hm; omega)
     have ho5:=owns_kept ho4 ((Chg.refl [] w4).alloc (.cells #[ptr b4] 80)) (by simp)
     have HO4:=Lib.hid ho5
     clear hc4 hv4 hp4 ho4 ho5
     go_wp2_with (at_builtin; go_must (refine wpL_append rfl _ _ 81 rfl 80 _ 1 8 infoPtr Tryz.underlying81 rfl (by decide) _ _ _ rfl HO4.out ⟨w4.heap.size,0,none⟩ 1 1 [_] rfl rfl (cell_new1 _ _ _) (by simp [Value.oneCell']) ?_ ?_ ?_))
     ·omega
     ·unfold maxLen; omega
     ·intro v' w' hown' hch' hmv'
      have HO':=Lib.hid hown'; clear hown'
      obtain ⟨hp5,hc5,hf5⟩:=grow_step hB hbp hbt (HC.out) HC4.out HP4.out HF.out hch' hmv'
      have hlw : ∀ g∈blk _,g < wr.heap.size:=fun g hg=>Nat.lt_of_lt_of_le (owns_lt HO.out g hg) (Chg.refl [bp] wr).size
      have hes4:=(framed_Es acc vs).call HES.out ((Chg.refl [bp] wr).then HC4.out) hbp
      have hx4:=(framed_E x [ptr b4]).fresh HV4.out hlw (HC.out).size
      have hes5:=(framed_Es acc vs).app hes4 hch' hmv'
      have hx5:=(framed_E x [ptr b4]).app hx4 hch' hmv'
      have HES5:=Lib.hid (EsAt.snoc hes5 hx5)
      have HP5:=Lib.hid hp5; have HC5:=Lib.hid hc5; have HF5:=Lib.hid hf5
      clear hch' hmv' hp5 hc5 hf5 hes4 hx4 hes5 hx5 hlw
      go_wp2_with fail
      refine ⟨⟨f,false,acc ++ [x],vs ++ [ptr b4],r,rfl,HRR.out _ HX.out,by omega,by simp; omega,HP5.out,by simpa using HO'.out,HES5.out,HF5.out,HC5.out⟩,?_⟩
      rw [HP5.out.cnt,HP.out.cnt]
      omega
   | false=>
    have HMU2:=Lib.hid (must_any [44] wr B bp bt z ts' HP.out)
    cases hcm : see [44] ts' with
    | false=>
     have HRR:=Lib.hid (show argsL z (ex z) (ts.length + 1) true [] ts.tail = .bad 3 (hd z ts') by rw [HR.out,argsL,hsc,if_neg (by simp),if_pos ⟨rfl,hcm⟩])
     rw [must,hcm,if_neg (by simp)] at HMU2
     clear hsc hcm
     go_wp2_with fail
     refine HT.out.mono ?_; rintro _ w2 ⟨rfl,_,_,hw⟩
     rw [HI.out]
     have hw':=(hw HI.out).symm
     subst hw'
     clear hw
     go_wp2_with fail
     refine HMU2.out.mono ?_; intro e w4 he
     have HEE:=Lib.hid he
     obtain ⟨b,rfl⟩:=he.thrown
     clear he
     go_wp2_with fail
     refine ⟨rfl,?_⟩
     rw [HRR.out]
     exact HEE.out.relay HC.out
    | true=>
     have hct:=see_tail hcm
     have HRR:Hid (∀ q,ex z ts'.tail=q→argsL z (ex z) (ts.length + 1) true [] ts.tail=match q with | .bad e p=>.bad e p | .ok x r=>argsL z (ex z) f false (acc ++ [x]) r):=Lib.hid (fun q hq=>by rw [HR.out,argsL,hsc,if_neg (by simp),if_neg (by rw [hcm]; simp),if_neg (by simp),hq]; cases q <;> rfl)
     rw [must,hcm,if_pos rfl] at HMU2
     clear hsc hcm
     go_wp2_with fail
     refine HT.out.mono ?_; rintro _ w2 ⟨rfl,_,_,hw⟩
     rw [HI.out]
     have hw':=(hw HI.out).symm
     subst hw'
     clear hw
     go_wp2_with fail
     refine HMU2.out.mono ?_; rintro _ w3 ⟨hc3,_,rfl,rfl,hp3⟩
     have HC3:=Lib.hid hc3; have HP3:=Lib.hid hp3
     clear hc3 hp3
     have HEX:=Lib.hid (HE.out w3 B bp bt z ts'.tail HP3.out)
     cases hx : ex z (ts'.tail) with
     | bad en p=>
      have HX:=Lib.hid hx
      rw [HX.out] at HEX
      clear hx
      go_wp2_with fail
      refine HEX.out.mono ?_; intro e w4 he
      have HEE:=Lib.hid he
      obtain ⟨b,rfl⟩:=he.thrown
      clear he
      go_wp2_with fail
      refine ⟨rfl,?_⟩
      rw [HRR.out _ HX.out]
      exact HEE.out.relay (HC.out.then HC3.out)
     | ok x r=>
      have HX:=Lib.hid hx
      have hxl:=HM.out _ _ _ hx
      rw [HX.out] at HEX
      clear hx
      go_wp2_with fail
      refine HEX.out.mono ?_; rintro e w4 ⟨hc4,v4,rfl,hv4,hp4⟩
      obtain ⟨b4,rfl⟩:=hv4.ptr
      have HC4:=Lib.hid hc4; have HV4:=Lib.hid hv4; have HP4:=Lib.hid hp4
      have ho4:=owns_kept HO.out ((HC3.out).then hc4) (fun g hg hm=>by have:=HF.out g hg; simp at hm; omega)
      have ho5:=owns_kept ho4 ((Chg.refl [] w4).alloc (.cells #[ptr b4] 80)) (by simp)
      have HO4:=Lib.hid ho5
      clear hc4 hv4 hp4 ho4 ho5
      go_wp2_with (at_builtin; go_must (refine wpL_append rfl _ _ 81 rfl 80 _ 1 8 infoPtr Tryz.underlying81 rfl (by decide) _ _ _ rfl HO4.out ⟨w4.heap.size,0,none⟩ 1 1 [_] rfl rfl (cell_new1 _ _ _) (by simp [Value.oneCell']) ?_ ?_ ?_))
      ·omega
      ·unfold maxLen; omega
      ·intro v' w' hown' hch' hmv'
       have HO':=Lib.hid hown'; clear hown'
       obtain ⟨hp5,hc5,hf5⟩:=grow_step hB hbp hbt (HC.out.then HC3.out) HC4.out HP4.out HF.out hch' hmv'
       have hlw : ∀ g∈blk _,g < w3.heap.size:=fun g hg=>Nat.lt_of_lt_of_le (owns_lt HO.out g hg) HC3.out.size
       have hes4:=(framed_Es acc vs).call HES.out ((HC3.out).then HC4.out) hbp
       have hx4:=(framed_E x [ptr b4]).fresh HV4.out hlw (HC.out.then HC3.out).size
       have hes5:=(framed_Es acc vs).app hes4 hch' hmv'
       have hx5:=(framed_E x [ptr b4]).app hx4 hch' hmv'
       have HES5:=Lib.hid (EsAt.snoc hes5 hx5)
       have HP5:=Lib.hid hp5; have HC5:=Lib.hid hc5; have HF5:=Lib.hid hf5
       clear hch' hmv' hp5 hc5 hf5 hes4 hx4 hes5 hx5 hlw
       go_wp2_with fail
       refine ⟨⟨f,false,acc ++ [x],vs ++ [ptr b4],r,rfl,HRR.out _ HX.out,by omega,by simp; omega,HP5.out,by simpa using HO'.out,HES5.out,HF5.out,HC5.out⟩,?_⟩
       rw [HP5.out.cnt,HP.out.cnt]
       omega
end Go.Proofs.YtilhhkokdfajiaaGreatDoor
namespace Go.Mq.Tree
open Go Go.RowKit Go.Mq
def namedR (z:Nat) (ex:Ps E) (p:Nat) (q:List UInt8 × List UInt8):Ps E:=fun r=>if see [91] r then match ex r.tail with
  | .bad e p=>.bad e p
  | .ok i r2=>match must z [93] r2 with
   | .bad e p=>.bad e p
   | .ok _ r3=>.ok (.item p q.1 q.2 i) r3
 else if see [40] r then match argsL z ex (r.length + 1) true [] r.tail with
  | .bad e p=>.bad e p
  | .ok l r2=>.ok (.app p q.1 q.2 (E.ofList l)) r2
 else .ok (.var p q.1 q.2) r
theorem named_eq (z:Nat) (ex:Ps E) (ts:List Tok) : named z ex ts=match qual z ts with
  | .bad e p=>.bad e p
  | .ok q r=>namedR z ex (hd z ts) q r:=rfl
theorem qual_eats (z:Nat):Eats (qual z):=by
 intro ts a r h
 rw [qual] at h
 cases h1 : name z ts with
 | bad e p=>rw [h1] at h; cases h
 | ok n r1=>
  rw [h1] at h
  have g1:=name_len h1
  simp only at h
  split at h
  ·rename_i hs
   have g2:=see_tail hs
   cases h2 : name z r1.tail with
   | bad e p=>rw [h2] at h; cases h
   | ok n2 r2=>
    rw [h2] at h
    have g3:=name_len h2
    cases h
    omega
  ·cases h; omega
theorem must_len {z:Nat} {s:List UInt8} {ts r:List Tok} {u:Unit} (h : must z s ts = .ok u r) : r.length + 1=ts.length:=by
 rw [must] at h
 split at h
 ·rename_i hs; cases h; exact see_tail hs
 ·cases h
theorem namedR_mono {z:Nat} {ex:Ps E} (he:Eats ex) (p:Nat) (q:List UInt8 × List UInt8):Mono (namedR z ex p q):=by
 intro ts a r h
 rw [namedR] at h
 split at h
 ·cases h1 : ex ts.tail with
  | bad e p=>rw [h1] at h; cases h
  | ok i r2=>
   rw [h1] at h
   have g1:=he _ _ _ h1
   cases h2 : must z [93] r2 with
   | bad e p=>simp only [h2] at h; cases h
   | ok u r3=>
    simp only [h2] at h
    have g2:=must_len h2
    cases h
    simp at g1
    omega
 ·split at h
  ·cases h1 : argsL z ex (ts.length + 1) true [] ts.tail with
   | bad e p=>rw [h1] at h; cases h
   | ok l r2=>
    rw [h1] at h
    have g1:=argsL_mono he _ _ _ _ _ _ h1
    cases h
    simp at g1
    omega
  ·cases h; exact Nat.le_refl _
theorem named_eats {z:Nat} {ex:Ps E} (he:Eats ex):Eats (named z ex):=by
 intro ts a r h
 rw [named_eq] at h
 cases h1 : qual z ts with
 | bad e p=>rw [h1] at h; cases h
 | ok q r1=>
  rw [h1] at h
  have g1:=qual_eats z _ _ _ h1
  have g2:=namedR_mono he _ _ _ _ _ h
  omega
def Off6 (w wr:World):Nat→Prop:=fun b=>w.heap.size≤b∧b < wr.heap.size∧b≠w.heap.size
end Go.Mq.Tree
namespace Go.Proofs.YtilhhkokdfajiaaGreatDoor
open Go Go.RowKit Go.Mq Go.Mq.Tree
set_option maxRecDepth 100000
set_option maxHeartbeats 8000000
theorem par_at {w:World} {B bp bt z:Nat} {ts:List Tok} (h:Par w B bp bt z ts) : ∃ off c n,w.cell? ⟨bp,0,none⟩=some (.slice (some ⟨bt,off,none⟩) (n + 1) c)∧w.cell? ⟨bt,off + 2,none⟩=some (.int .i64 (hd z ts)):=by
 cases ts with
 | nil=>obtain ⟨off,c,c0,_,c2,_⟩:=par_nil h; exact ⟨off,c,0,c0,c2⟩
 | cons t r=>obtain ⟨off,c,_,c0,_,_,c2,_⟩:=par_cons h; exact ⟨off,c,r.length + 1,c0,c2⟩
theorem named_any (deep:Nat) (hdp : deep≤11) (ex:Nat→Ps E) (hE:ExOK 0 (deep + 1) ex) (heats : ∀ z,Eats (ex z)) (w:World) (B bp bt z:Nat) (ts:List Tok) (h:Par w B bp bt z ts) :
  Calls Tryz.prog 99 #[ptr bp,.int .i64 deep] w (Ended w B bp bt z (named z (ex z) ts) (EV w)):=by
 have HE:=Lib.hid (ex_next hE)
 have H:=Lib.hid h
 obtain ⟨off,c,nn,c0,c2⟩:=par_at h
 have hB:=h.laid.le
 have hbp:=h.bp_lt
 have hbt:=h.bt_lt
 have hwr:=wrap_next hdp
 have hxb : w.heap.size≠bp:=by omega
 have hxt : w.heap.size≠bt:=by omega
 clear h
 go_enter Tryz.func99,Tryz.ntmps99
 go_wp2_with fail
 have hc1:Chg [bp] w (w.alloc (.cells #[.int .i64 2,.int .i64 (hd z ts),.int .i64 0,str [],str [],str [],nilp,nilp,nils] 83)):=(Chg.refl _ _).alloc _
 have hp1:Par (w.alloc (.cells #[.int .i64 2,.int .i64 (hd z ts),.int .i64 0,str [],str [],str [],nilp,nilp,nils] 83)) B bp bt z ts:=H.out.kept ((Chg.refl [] w).alloc _) (by simp) (by simp) (by simp)
 have hb1:=Blk.new w #[.int .i64 2,.int .i64 (hd z ts),.int .i64 0,str [],str [],str [],nilp,nilp,nils] 83
 have HN1:=Lib.hid (name_any _ B bp bt z ts hp1)
 have HC1:=Lib.hid hc1; have HB1:=Lib.hid hb1
 clear hc1 hp1 hb1
 cases hn : name z ts with
 | bad en p=>
  have HRR:=Lib.hid (show named z (ex z) ts = .bad en p by rw [named_eq,qual,hn])
  rw [hn] at HN1
  clear hn
  refine HN1.out.mono ?_; intro e w6 he
  have HEE:=Lib.hid he
  obtain ⟨b,rfl⟩:=he.thrown
  clear he
  go_wp2_with fail
  refine ⟨rfl,?_⟩
  rw [HRR.out]
  exact HEE.out.relay (HC1.out)
 | ok n r=>
  have HQN:=Lib.hid hn
  rw [hn] at HN1
  clear hn
  refine HN1.out.mono ?_; rintro e w2 ⟨hc2,_,rfl,rfl,hp2⟩
  have hb2:=HB1.out.kept hc2 (by simpa using hxb)
  have f4:=hb2.frozen 4; have e4:=hb2.cell 4 _ rfl
  have hb3:=hb2.set 4 (str n)
  have hc3:=Chg.set1 w2 w.heap.size 4 (str n)
  have hwc3:Chg [bp] w (w2.setCell ⟨w.heap.size,4,none⟩ (str n)):=(HC1.out.then hc2).trans hc3 (fun x hx=>.inr (by simp at hx; omega))
  have hp3:=hp2.kept hc3 (fun x hx=>by simp at hx; omega) (by simpa using Ne.symm hxb) (by simp; omega)
  have HB3:=Lib.hid hb3; have HWC3:=Lib.hid hwc3; have HP3:=Lib.hid hp3
  clear hc2 hp2 hb2 hb3 hc3 hwc3 hp3
  go_wp2_with fail
  generalize w2.setCell ⟨w.heap.size,4,none⟩ (str n)=w3 at *
  have HT4:=Lib.hid (take_any [46] w3 B bp bt z r HP3.out)
  cases h4 : see [46] r
  case' false=>
   have HI4:=Lib.hid h4
   obtain ⟨q,hq⟩ : ∃ q:List UInt8 × List UInt8,q=([],n):=⟨_,rfl⟩
   have HN:Hid (named z (ex z) ts=namedR z (ex z) (hd z ts) q r):=Lib.hid (by rw [named_eq,qual,HQN.out]; simp only [h4,hq]; rfl)
   clear h4
   refine HT4.out.mono ?_; rintro _ w4 ⟨rfl,_,_,hw⟩
   rw [HI4.out]
   have hw':=(hw HI4.out).symm; subst hw'; clear hw
   have HQ:Hid (Blk w3 w.heap.size #[.int .i64 2,.int .i64 (hd z ts),.int .i64 0,str q.1,str q.2,str [],nilp,nilp,nils] 83):=Lib.hid (by rw [hq]; simpa using HB3.out)
   have hb5:=Lib.hid HQ.out.lt
   clear hq
   have HPQ:=HP3; have HCQ:=HWC3
   obtain ⟨wq,rfl⟩ : ∃ x,x=w3:=⟨_,rfl⟩
   obtain ⟨r',rfl⟩ : ∃ x,x=r:=⟨_,rfl⟩
  case' true=>
   have HI4:=Lib.hid h4
   have h4t:=see_tail h4
   clear h4
   refine HT4.out.mono ?_; rintro _ w4 ⟨rfl,hp4,hc4,_⟩
   rw [HI4.out]
   rw [skip,HI4.out,if_pos rfl] at hp4
   have hb4:=(HB3.out.kept hc4 (by simpa using hxb)).kept ((Chg.refl [] w4).drew) (by simp)
   have e4d : w4.drew.cell? ⟨w.heap.size,4,none⟩=some (str n):=hb4.cell 4 _ rfl
   have HB4:=Lib.hid hb4
   have hwc4:Chg [bp] w w4.drew:=(HWC3.out.then hc4).drew
   have HWC4:=Lib.hid hwc4
   have HN4:=Lib.hid (name_any w4.drew B bp bt z r.tail (hp4.kept ((Chg.refl [] w4).drew) (by simp) (by simp) (by simp)))
   have hag : ∀ w,(isAgg 9).run Tryz.prog w = .ok false w:=Tryz.isAgg9
   clear hp4 hc4 hb4 hwc4
   cases hn2 : name z r.tail
   case' bad en p=>
    have HRR:=Lib.hid (show named z (ex z) ts = .bad en p by rw [named_eq,qual,HQN.out]; simp only [HI4.out,if_true,hn2])
    rw [hn2] at HN4
    clear hn2
    go_wp2_with fail
    refine wp_region_dead 7 [true,true,true,true,true,true,true] rfl (by kernel_rfl) (by kernel_rfl) rfl ?_
    repeat ((with_reducible show wpX _ _ _ _ _ _ _ _);(first | refine wpX_nil ?_ | refine wpX_skip rfl ?_ | refine wpX_mv rfl rfl (by kernel_rfl) (fun _ _=>?_) | refine wpX_ldD rfl rfl rfl (by exact ⟨_,_,e4d⟩) (fun _ _=>?_));go_wp2_with fail)
    refine HN4.out.mono ?_; intro e w6 he
    have HEE:=Lib.hid he
    obtain ⟨b,rfl⟩:=he.thrown
    clear he
    intro a' ha
    refine ⟨ha,?_⟩
    rw [HRR.out]
    exact HEE.out.relay HWC4.out
   case' ok n2 r2=>
    have HN:Hid (named z (ex z) ts=namedR z (ex z) (hd z ts) (n,n2) r2):=Lib.hid (by rw [named_eq,qual,HQN.out]; simp only [HI4.out,if_true,hn2])
    rw [hn2] at HN4
    clear hn2
    go_wp2_with fail
    refine wp_region_XT (fun w'=>Chg [bp,w.heap.size] w4.drew w'∧w'.cell? ⟨w.heap.size,4,none⟩=some (str n)) rfl (by kernel_rfl) rfl ⟨Chg.refl _ _,e4d⟩ ?_
    repeat ((with_reducible show wpX _ _ _ _ _ _ _ _);(first | refine wpX_mv rfl rfl (by kernel_rfl) (fun _ _=>?_));go_wp2_with fail)
    refine wpX_ld1 rfl rfl rfl (str n) hag (fun _ h=>h.2) ?_
    repeat ((with_reducible show wpX _ _ _ _ _ _ _ _);(first | refine wpX_mv rfl rfl (by kernel_rfl) (fun _ _=>?_));go_wp2_with fail)
    refine wpX_ef' rfl rfl rfl (fun _ _=>?_)
    go_wp2_with fail
    refine HN4.out.mono ?_; rintro e w6 ⟨hc6,_,rfl,rfl,hp6⟩
    have hs4 : w.heap.size < w4.drew.heap.size:=HB4.out.lt
    have hb6:=HB4.out.kept hc6 (by simpa using hxb)
    have f63:=hb6.frozen 3; have f64:=hb6.frozen 4; have e63:=hb6.cell 3 _ rfl; have e64:=hb6.cell 4 _ rfl
    have HC6:=Lib.hid hc6; have HP6:=Lib.hid hp6; have HB6:=Lib.hid hb6
    clear hc6 hp6 hb6
    go_wp2_with fail
    refine And.intro ⟨HC6.out.mono (fun x hx=>.inl (by simp at hx; simp [hx])),e64⟩ ?_
    repeat ((with_reducible show wpX _ _ _ _ _ _ _ _);(first | refine wpX_mv rfl rfl (by kernel_rfl) (fun _ _=>?_));go_wp2_with fail)
    refine wpX_ef' rfl rfl rfl (fun _ _=>?_)
    go_wp2_with fail
    have hb7:=HB6.out.set 3 (str n)
    have f74:=hb7.frozen 4; have e74:=hb7.cell 4 _ rfl
    have HB7:=Lib.hid hb7
    clear hb7
    refine And.intro ⟨(HC6.out.mono (fun x hx=>.inl (by simp at hx; simp [hx]))).setCell _ (.inl (by simp)) _,e74⟩ ?_
    repeat ((with_reducible show wpX _ _ _ _ _ _ _ _);(first | refine wpX_mv rfl rfl (by kernel_rfl) (fun _ _=>?_));go_wp2_with fail)
    refine stepX_ef rfl rfl (fun _ _=>?_)
    go_wp2_with fail
    have hb8:=HB7.out.set 4 (str n2)
    have hc8:Chg [w.heap.size] w6 ((w6.setCell ⟨w.heap.size,3,none⟩ (str n)).setCell ⟨w.heap.size,4,none⟩ (str n2)):=(Chg.set1 _ _ _ _).then (Chg.set1 _ _ _ _)
    have hwc8:Chg [bp] w ((w6.setCell ⟨w.heap.size,3,none⟩ (str n)).setCell ⟨w.heap.size,4,none⟩ (str n2)):=(HWC4.out.then HC6.out).trans hc8 (fun x hx=>.inr (by simp at hx; omega))
    have hp8:=HP6.out.kept hc8 (fun x hx=>by simp at hx; omega) (by simpa using Ne.symm hxb) (by simp; omega)
    obtain ⟨q,hq⟩ : ∃ q:List UInt8 × List UInt8,q=(n,n2):=⟨_,rfl⟩
    have HQ:Hid (Blk ((w6.setCell ⟨w.heap.size,3,none⟩ (str n)).setCell ⟨w.heap.size,4,none⟩ (str n2)) w.heap.size #[.int .i64 2,.int .i64 (hd z ts),.int .i64 0,str q.1,str q.2,str [],nilp,nilp,nils] 83):=Lib.hid (by rw [hq]; simpa using hb8)
    rw [← hq] at HN
    have HPQ:=Lib.hid hp8; have HCQ:=Lib.hid hwc8
    have hb5:=Lib.hid HQ.out.lt
    clear hb8 hc8 hwc8 hp8 f63 f64 e63 e64 f74 e74 hq HB6 HB7
    generalize (w6.setCell ⟨w.heap.size,3,none⟩ (str n)).setCell ⟨w.heap.size,4,none⟩ (str n2)=wq at *
    obtain ⟨r',rfl⟩ : ∃ x,x=r2:=⟨_,rfl⟩
  all_goals
   have HT5:=Lib.hid (take_any [91] wq B bp bt z r' HPQ.out)
   cases h5 : see [91] r' with
   | true=>
    have HI5:=Lib.hid h5
    have h5t:=see_tail h5
    clear h5
    first | refine HT5.out.mono ?_ | (go_wp2_with fail; refine HT5.out.mono ?_)
    rintro _ w5 ⟨rfl,hp5,hc5,_⟩
    rw [HI5.out]
    rw [skip,HI5.out,if_pos rfl] at hp5
    have HP5:=Lib.hid hp5; have HC5:=Lib.hid hc5
    clear hp5 hc5
    have HEX:=Lib.hid (HE.out w5 B bp bt z r'.tail HP5.out)
    go_wp2_with fail
    refine HEX.out.mono ?_; intro e w6 he
    rcases he.part with ⟨en,p,b,rfl,hx,HEE⟩ | ⟨i,r6,hx,he⟩
    ·go_wp2_with fail; exact ⟨rfl,by rw [show named z (ex z) ts = .bad en p by rw [HN.out,namedR,if_pos HI5.out,hx.out]]; exact HEE.out.relay (HCQ.out.then HC5.out)⟩
    have HX:=hx
    obtain ⟨hc6,v6,rfl,hv6,hp6⟩:=he
    clear hx
    obtain ⟨b6,rfl⟩:=hv6.ptr
    have HC6:=Lib.hid hc6; have HV6:=Lib.hid hv6; have HP6:=Lib.hid hp6
    have hb6:=HQ.out.kept (HC5.out.then hc6) (by simpa using hxb)
    have f60:=hb6.frozen 0; have f66:=hb6.frozen 6; have e60:=hb6.cell 0 _ rfl; have e66:=hb6.cell 6 _ rfl
    have hb7:=(hb6.set 0 (.int .i64 3)).set 6 (ptr b6)
    have hc7:Chg [w.heap.size] w6 ((w6.setCell ⟨w.heap.size,0,none⟩ (.int .i64 3)).setCell ⟨w.heap.size,6,none⟩ (ptr b6)):=(Chg.set1 _ _ _ _).then (Chg.set1 _ _ _ _)
    have HB7:=Lib.hid hb7; have HC7:=Lib.hid hc7
    have hwc7:Chg [bp] w ((w6.setCell ⟨w.heap.size,0,none⟩ (.int .i64 3)).setCell ⟨w.heap.size,6,none⟩ (ptr b6)):=((HCQ.out.then HC5.out).then hc6).trans hc7 (fun x hx=>.inr (by simp at hx; omega))
    have HWC7:=Lib.hid hwc7
    have hp7:=HP6.out.kept hc7 (fun x hx=>by simp at hx; omega) (by simpa using Ne.symm hxb) (by simp; omega)
    have HMU:=Lib.hid (must_any [93] _ B bp bt z r6 hp7)
    have HS6:=Lib.hid (show w.heap.size≤w5.heap.size from (HCQ.out.then HC5.out).size)
    clear hc6 hv6 hp6 hb6 hb7 hc7 hwc7 hp7
    go_wp2_with fail
    cases h8 : see [93] r6 with
    | false=>
     have HRR:=Lib.hid (show named z (ex z) ts = .bad 3 (hd z r6) by rw [HN.out,namedR,if_pos HI5.out,HX.out]; simp [must,h8])
     rw [must,h8,if_neg (by simp)] at HMU
     clear h8
     refine HMU.out.mono ?_; intro e w8 he
     have HEE:=Lib.hid he
     obtain ⟨b,rfl⟩:=he.thrown
     clear he
     go_wp2_with fail
     refine ⟨rfl,?_⟩
     rw [HRR.out]
     exact HEE.out.relay (HWC7.out)
    | true=>
     have HRR:=Lib.hid (show named z (ex z) ts = .ok (.item (hd z ts) q.1 q.2 i) r6.tail by rw [HN.out,namedR,if_pos HI5.out,HX.out]; simp [must,h8])
     rw [must,h8,if_pos rfl] at HMU
     clear h8
     refine HMU.out.mono ?_; rintro e w8 ⟨hc8,_,rfl,rfl,hp8⟩
     have HC8:=Lib.hid hc8; have HP8:=Lib.hid hp8
     clear hc8 hp8
     go_wp2_with fail
     go_ret
     rw [HRR.out]
     refine ⟨HWC7.out.then HC8.out,_,rfl,?_,HP8.out⟩
     have hb8:=HB7.out.kept HC8.out (by simpa using hxb)
     have hi6:EAt w6 (Off6 w w6) i [ptr b6]:=HV6.out.mono fun x hx=>⟨Nat.le_trans HS6.out hx.1,hx.2,by have:=hx.1; have:=hb5.out; have:=HC5.out.size; omega⟩
     have hi7:=hi6.kept HC7.out (fun x hx hn=>by simp at hx; exact hn.2.2 hx)
     have hi8:=hi7.kept HC8.out (fun x hx hn=>by simp at hx; have:=hn.1; omega)
     have hsz : w6.heap.size≤w8.heap.size:=Nat.le_trans HC7.out.size HC8.out.size
     refine ⟨w.heap.size,ptr b6,rfl,⟨Nat.le_refl _,hb8.lt⟩,?_,hi8.mono fun x hx=>⟨hx.1,Nat.lt_of_lt_of_le hx.2.1 hsz⟩⟩
     simpa using hb8
   | false=>
    have HI5:=Lib.hid h5
    clear h5
    have HS5:=Lib.hid (see_any [40] wq B bp bt z r' HPQ.out)
    cases h6 : see [40] r' with
    | true=>
     have HI6:=Lib.hid h6
     have HAR:=Lib.hid (args_any deep hdp ex hE heats wq B bp bt z r' HPQ.out h6)
     clear h6
     cases hx : argsL z (ex z) (r'.length + 1) true [] r'.tail with
     | bad en p=>
      have HRR:=Lib.hid (show named z (ex z) ts = .bad en p by rw [HN.out,namedR,if_neg (by rw [HI5.out]; simp),if_pos HI6.out,hx])
      rw [hx] at HAR
      clear hx
      first | refine HT5.out.mono ?_ | (go_wp2_with fail; refine HT5.out.mono ?_)
      rintro _ w5 ⟨rfl,_,_,hw⟩
      rw [HI5.out]
      have hw':=(hw HI5.out).symm; subst hw'; clear hw
      go_wp2_with fail
      refine HS5.out.mono ?_; rintro _ w6 ⟨rfl,rfl⟩
      rw [HI6.out]
      go_wp2_with fail
      refine HAR.out.mono ?_; intro e w6 he
      have HEE:=Lib.hid he
      obtain ⟨b,rfl⟩:=he.thrown
      clear he
      go_wp2_with fail
      refine ⟨rfl,?_⟩
      rw [HRR.out]
      exact HEE.out.relay (HCQ.out)
     | ok l r6=>
      have HRR:=Lib.hid (show named z (ex z) ts = .ok (.app (hd z ts) q.1 q.2 (E.ofList l)) r6 by rw [HN.out,namedR,if_neg (by rw [HI5.out]; simp),if_pos HI6.out,hx])
      rw [hx] at HAR
      clear hx
      first | refine HT5.out.mono ?_ | (go_wp2_with fail; refine HT5.out.mono ?_)
      rintro _ w5 ⟨rfl,_,_,hw⟩
      rw [HI5.out]
      have hw':=(hw HI5.out).symm; subst hw'; clear hw
      go_wp2_with fail
      refine HS5.out.mono ?_; rintro _ w6 ⟨rfl,rfl⟩
      rw [HI6.out]
      go_wp2_with fail
      refine HAR.out.mono ?_; rintro e w6 ⟨hc6,v6,rfl,⟨a6,c6,vs6,rfl,hv1,hv2,hv3⟩,hp6⟩
      have HC6:=Lib.hid hc6; have HP6:=Lib.hid hp6; have HV6:=Lib.hid (And.intro hv1 (And.intro hv2 hv3))
      have hb6:=HQ.out.kept hc6 (by simpa using hxb)
      have f60:=hb6.frozen 0; have f68:=hb6.frozen 8; have e60:=hb6.cell 0 _ rfl; have e68:=hb6.cell 8 _ rfl
      have hb7:=(hb6.set 0 (.int .i64 6)).set 8 (.slice a6 vs6.length c6)
      have hc7:Chg [w.heap.size] w6 ((w6.setCell ⟨w.heap.size,0,none⟩ (.int .i64 6)).setCell ⟨w.heap.size,8,none⟩ (.slice a6 vs6.length c6)):=(Chg.set1 _ _ _ _).then (Chg.set1 _ _ _ _)
      have HB7:=Lib.hid hb7; have HC7:=Lib.hid hc7
      have HS6:=Lib.hid (show w.heap.size < _ from HQ.out.lt)
      clear hc6 hv1 hv2 hv3 hp6 hb6 hb7 hc7
      go_wp2_with fail
      go_ret
      rw [HRR.out]
      refine ⟨(HCQ.out.then HC6.out).trans HC7.out (fun x hx=>.inr (by simp at hx; omega)),_,rfl,?_,HP6.out.kept HC7.out (fun x hx=>by simp at hx; omega) (by simpa using Ne.symm hxb) (by simp; omega)⟩
      obtain ⟨hv1,hv2,hv3⟩:=HV6.out
      have hF : ∀ x,New _ w6 x→Off6 w w6 x:=fun x hx=>⟨Nat.le_trans HCQ.out.size hx.1,hx.2,by have:=hx.1; have:=HS6.out; omega⟩
      have hk : ∀ x∈[w.heap.size],¬ Off6 w w6 x:=fun x hx hn=>by simp at hx; exact hn.2.2 hx
      have hr7:=(hv2.mono hF).kept HC7.out hk
      have he7:=(EsAt.mono hF hv3).kept HC7.out hk
      have hG : ∀ x,Off6 w w6 x→New w _ x:=fun x hx=>⟨hx.1,Nat.lt_of_lt_of_le hx.2.1 HC7.out.size⟩
      refine ⟨w.heap.size,a6,c6,vs6,rfl,⟨Nat.le_refl _,HB7.out.lt⟩,?_,hv1,hr7.mono hG,(he7.mono hG).one⟩
      simpa using HB7.out
    | false=>
     have HI6:=Lib.hid h6
     have HRR:=Lib.hid (show named z (ex z) ts = .ok (.var (hd z ts) q.1 q.2) r' by rw [HN.out,namedR,if_neg (by rw [HI5.out]; simp),if_neg (by rw [h6]; simp)])
     clear h6
     first | refine HT5.out.mono ?_ | (go_wp2_with fail; refine HT5.out.mono ?_)
     rintro _ w5 ⟨rfl,_,_,hw⟩
     rw [HI5.out]
     have hw':=(hw HI5.out).symm; subst hw'; clear hw
     go_wp2_with fail
     refine HS5.out.mono ?_; rintro _ w6 ⟨rfl,rfl⟩
     rw [HI6.out]
     go_wp2_with fail
     go_ret
     rw [HRR.out]
     exact ⟨HCQ.out,_,rfl,⟨w.heap.size,rfl,⟨Nat.le_refl _,HQ.out.lt⟩,HQ.out⟩,HPQ.out⟩
end Go.Proofs.YtilhhkokdfajiaaGreatDoor
namespace Go.Mq.Tree
open Go Go.RowKit Go.Mq
def isNum:List Tok→Bool
 | []=>false
 | t :: _=>decide (t.kind = .number)
theorem one_eq (z d:Nat) (ts:List Tok) : one z (d + 1) ts=if see [45] ts then (match one z d ts.tail with
   | .bad e p=>.bad e p
   | .ok x r=>.ok (.un (hd z ts) [45] x) r)
  else if see [110,111,116] ts then (match one z d ts.tail with
   | .bad e p=>.bad e p
   | .ok x r=>.ok (.un (hd z ts) [110,111,116] x) r)
  else if see [40] ts then (match expr z (one z d) 5 ts.tail with
   | .bad e p=>.bad e p
   | .ok x r=>match must z [41] r with
    | .bad e p=>.bad e p
    | .ok _ r2=>.ok x r2)
  else if isNum ts then (match number z 9223372036854775807 ts with
   | .bad e p=>.bad e p
   | .ok n r=>.ok (.num (hd z ts) n) r)
  else named z (expr z (one z d) 5) ts:=by
 cases ts with
 | nil=>rfl
 | cons t r=>
  rw [one]
  simp only [isNum,decide_eq_true_eq]
  rfl
theorem number_len {z:Nat} {most:Int} {ts r:List Tok} {n:Int} (h : number z most ts = .ok n r) : r.length + 1=ts.length:=by
 cases ts with
 | nil=>cases h
 | cons t l=>
  rw [number] at h
  split at h
  ·cases h
  ·split at h
   ·split at h
    ·cases h
    ·cases h; rfl
   ·cases h
theorem one_eats (z:Nat) : ∀ d,Eats (one z d):=by
 intro d
 induction d with
 | zero=>intro ts a r h; cases h
 | succ d ih=>
  intro ts a r h
  rw [one_eq] at h
  split at h
  ·rename_i hs
   have g1:=see_tail hs
   cases h1 : one z d ts.tail with
   | bad e p=>rw [h1] at h; cases h
   | ok x r2=>rw [h1] at h; cases h; have:=ih _ _ _ h1; omega
  ·split at h
   ·rename_i hs
    have g1:=see_tail hs
    cases h1 : one z d ts.tail with
    | bad e p=>rw [h1] at h; cases h
    | ok x r2=>rw [h1] at h; cases h; have:=ih _ _ _ h1; omega
   ·split at h
    ·rename_i hs
     have g1:=see_tail hs
     cases h1 : expr z (one z d) 5 ts.tail with
     | bad e p=>rw [h1] at h; cases h
     | ok x r2=>
      rw [h1] at h
      have g2:=expr_eats ih 5 _ _ _ h1
      cases h2 : must z [41] r2 with
      | bad e p=>simp only [h2] at h; cases h
      | ok u r3=>simp only [h2] at h; have g3:=must_len h2; cases h; omega
    ·split at h
     ·cases h1 : number z 9223372036854775807 ts with
      | bad e p=>rw [h1] at h; cases h
      | ok n r2=>rw [h1] at h; cases h; have:=number_len h1; omega
     ·exact named_eats (expr_eats ih 5) _ _ _ h
end Go.Mq.Tree
namespace Go.Proofs.YtilhhkokdfajiaaGreatDoor
open Go Go.RowKit Go.Mq Go.Mq.Tree
set_option maxRecDepth 100000
set_option maxHeartbeats 8000000
theorem par_head {w:World} {B bp bt z:Nat} {ts:List Tok} (h:Par w B bp bt z ts) : ∃ off c n kv tv,w.cell? ⟨bp,0,none⟩=some (.slice (some ⟨bt,off,none⟩) (n + 1) c)∧w.cell? ⟨bt,off,none⟩=some (.int .i64 kv)∧w.cell? ⟨bt,off + 1,none⟩=some (str tv)∧w.cell? ⟨bt,off + 2,none⟩=some (.int .i64 (hd z ts))∧(kv == 2)=isNum ts:=by
 cases ts with
 | nil=>
  obtain ⟨off,c,hb,hl,hc⟩:=h.at_
  exact ⟨off,c,0,4,[],hb.cell 0 _ rfl,hc 0 _ rfl,hc 1 _ rfl,hc 2 _ rfl,rfl⟩
 | cons t r=>
  obtain ⟨off,c,_,c0,c1,c2,c3,_⟩:=par_cons h
  exact ⟨off,c,r.length + 1,t.kind.num,t.text,c0,c1,c2,c3,by cases hk : t.kind <;> simp [isNum,hk,Kind.num]⟩
theorem one_zero:OneOK 11 0:=by
 intro w B bp bt z ts h
 have HF:=Lib.hid (fail_any 4 w B bp bt z ts h)
 clear h
 go_enter Tryz.func97,Tryz.ntmps97
 go_wp2_with fail
 refine HF.out.mono ?_; intro e w2 he
 have HE:=Lib.hid he
 obtain ⟨b,rfl⟩:=he.thrown
 clear he
 go_wp2_with fail
 exact ⟨rfl,HE.out.relay (Chg.refl _ _)⟩
theorem one_step (deep d:Nat) (hdp : deep + (d + 1)=11) (hO:OneOK (deep + 1) d):OneOK deep (d + 1):=by
 have heats : ∀ z,Eats (expr z (one z d) 5):=fun z=>expr_eats (one_eats z d) 5
 have hE:ExOK 0 (deep + 1) (fun z=>expr z (one z d) 5):=expr_level (deep + 1) d hO (fun z=>(one_eats z d).mono) (by omega) 5 (Nat.le_refl _)
 intro w B bp bt z ts h
 have HEX:=Lib.hid (ex_next hE)
 have HO:Hid (∀ (w:World) (B bp bt z:Nat) (ts:List Tok),Par w B bp bt z ts→Calls Tryz.prog 97 #[ptr bp,.int .i64 ((deep:Int) + 1)] w (Ended w B bp bt z (one z d ts) (EV w))):=Lib.hid (fun w B bp bt z ts hp=>by
  have:=hO w B bp bt z ts hp
  simpa using this)
 have HNA:=Lib.hid (named_any deep (by omega) (fun z=>expr z (one z d) 5) hE heats)
 have H:=Lib.hid h
 obtain ⟨off,c,nn,kv,tv,c0,c1,c2,c3,hk⟩:=par_head h
 have HK:=Lib.hid hk
 have hbp:=h.bp_lt
 have hwr:=wrap_next (deep:=deep) (by omega)
 have hxb : w.heap.size≠bp:=by omega
 have hd10 : decide ((10:Int) < (deep:Int))=false:=decide_eq_false (by omega)
 have hp1:=h.kept ((Chg.refl [] w).alloc (.cells #[.int .i64 kv,str tv,.int .i64 (hd z ts)] 61)) (by simp) (by simp) (by simp)
 have hb1:=Blk.new w #[.int .i64 kv,str tv,.int .i64 (hd z ts)] 61
 have hc1:Chg [bp] w (w.alloc (.cells #[.int .i64 kv,str tv,.int .i64 (hd z ts)] 61)):=(Chg.refl _ _).alloc _
 have HP1:=Lib.hid hp1; have HB1:=Lib.hid hb1; have HC1:=Lib.hid hc1
 have HT1:=Lib.hid (take_any [45] _ B bp bt z ts hp1)
 clear h hE hO heats hk hp1 hb1 hc1
 go_enter Tryz.func97,Tryz.ntmps97
 go_wp2_with fail
 generalize w.alloc (.cells #[.int .i64 kv,str tv,.int .i64 (hd z ts)] 61)=w1 at *
 cases hm : see [45] ts with
 | true=>
  have HI:=Lib.hid hm
  clear hm
  refine HT1.out.mono ?_; rintro _ w2 ⟨rfl,hp2,hc2,_⟩
  rw [HI.out]
  rw [skip,HI.out,if_pos rfl] at hp2
  have hwc2:Chg [bp] w w2.drew:=(HC1.out.then hc2).drew
  have hb2:=(HB1.out.kept hc2 (by simpa using hxb)).kept (Chg.refl [] w2).drew (by simp)
  have e2d : w2.drew.cell? ⟨w.heap.size,2,none⟩=some (.int .i64 (hd z ts)):=hb2.cell 2 _ rfl
  have HWC2:=Lib.hid hwc2; have HB2:=Lib.hid hb2
  have HON:=Lib.hid (HO.out w2.drew B bp bt z ts.tail (hp2.kept (Chg.refl [] w2).drew (by simp) (by simp) (by simp)))
  clear hp2 hc2 hwc2 hb2
  cases hx : one z d ts.tail with
  | bad en p=>
   have HRR:=Lib.hid (show one z (d + 1) ts = .bad en p by rw [one_eq,if_pos HI.out,hx])
   rw [hx] at HON
   clear hx
   go_wp2_with fail
   refine wp_region_dead 5 [true,true,true,true,true] rfl (by kernel_rfl) (by kernel_rfl) rfl ?_
   repeat ((with_reducible show wpX _ _ _ _ _ _ _ _);(first | refine wpX_nil ?_ | refine wpX_skip rfl ?_ | refine wpX_mv rfl rfl (by kernel_rfl) (fun _ _=>?_) | refine wpX_ldD rfl rfl rfl (by exact ⟨_,_,e2d⟩) (fun _ _=>?_));go_wp2_with fail)
   refine HON.out.mono ?_; intro e w6 he
   have HEE:=Lib.hid he
   obtain ⟨b,rfl⟩:=he.thrown
   clear he
   intro a' ha
   refine ⟨ha,?_⟩
   rw [HRR.out]
   exact HEE.out.relay HWC2.out
  | ok x r6=>
   have HRR:=Lib.hid (show one z (d + 1) ts = .ok (.un (hd z ts) [45] x) r6 by rw [one_eq,if_pos HI.out,hx])
   rw [hx] at HON
   clear hx
   go_wp2_with fail
   refine wp_region_C [bp] rfl (by kernel_rfl) ?_
   have hS:Chg [bp] w2.drew w2.drew:=Chg.refl _ _
   repeat ((with_reducible refine gX ?_); (first | refine wpX_nil ?_ | refine sK ?_ | refine sM fun _ _=>?_ | refine sL (hz:=by exact Zone.of e2d (by simpa using hxb)) fun _ _=>?_ | refine sE fun _ _=>?_); go_wp2_with fail)
   refine HON.out.mono ?_; rintro e w6 ⟨hc6,v6,rfl,hv6,hp6⟩
   obtain ⟨b6,rfl⟩:=hv6.ptr
   have HC6:=Lib.hid hc6; have HV6:=Lib.hid hv6; have HP6:=Lib.hid hp6
   have hS2:=hc6
   clear hc6 hv6 hp6
   go_wp2_with fail
   refine And.intro (by assumption:Chg _ _ _) ?_
   repeat ((with_reducible refine gX ?_); (first | refine wpX_nil ?_ | refine sK ?_ | refine sM fun _ _=>?_ | refine sL (hz:=by exact Zone.of e2d (by simpa using hxb)) fun _ _=>?_ | refine sE fun _ _=>?_); go_wp2_with fail)
   refine And.intro (Chg.alloc (by assumption:Chg _ _ _) _) ?_
   repeat ((with_reducible refine gX ?_); (first | refine wpX_nil ?_ | refine sK ?_ | refine sM fun _ _=>?_ | refine sL (hz:=by exact Zone.of e2d (by simpa using hxb)) fun _ _=>?_ | refine sE fun _ _=>?_); go_wp2_with fail)
   go_ret
   rw [HRR.out]
   have hca:=(Chg.refl [bp] w6).alloc (.cells #[.int .i64 4,.int .i64 (hd z ts),.int .i64 0,str [],str [],str [45],ptr b6,nilp,nils] 83)
   refine ⟨(HWC2.out.then HC6.out).then hca,_,rfl,⟨w6.heap.size,ptr b6,rfl,⟨Nat.le_trans HWC2.out.size HC6.out.size,by simp⟩,Blk.new _ _ _,(EAt.later HV6.out HWC2.out.size).grown hbp hca⟩,HP6.out.kept ((Chg.refl [] w6).alloc _) (by simp) (by simp) (by simp)⟩
 | false=>
  have HI1:=Lib.hid hm
  clear hm
  refine HT1.out.mono ?_; rintro _ w2 ⟨rfl,_,_,hw⟩
  rw [HI1.out]
  have hw':=(hw HI1.out).symm; subst hw'; clear hw
  have HT2:=Lib.hid (take_any [110,111,116] _ B bp bt z ts HP1.out)
  cases hm : see [110,111,116] ts with
  | true=>
   have HI:=Lib.hid hm
   clear hm
   go_wp2_with fail
   refine HT2.out.mono ?_; rintro _ w2 ⟨rfl,hp2,hc2,_⟩
   rw [HI.out]
   rw [skip,HI.out,if_pos rfl] at hp2
   have hwc2:Chg [bp] w w2.drew:=(HC1.out.then hc2).drew
   have hb2:=(HB1.out.kept hc2 (by simpa using hxb)).kept (Chg.refl [] w2).drew (by simp)
   have e2d : w2.drew.cell? ⟨w.heap.size,2,none⟩=some (.int .i64 (hd z ts)):=hb2.cell 2 _ rfl
   have HWC2:=Lib.hid hwc2; have HB2:=Lib.hid hb2
   have HON:=Lib.hid (HO.out w2.drew B bp bt z ts.tail (hp2.kept (Chg.refl [] w2).drew (by simp) (by simp) (by simp)))
   clear hp2 hc2 hwc2 hb2
   cases hx : one z d ts.tail with
   | bad en p=>
    have HRR:=Lib.hid (show one z (d + 1) ts = .bad en p by rw [one_eq,if_neg (by rw [HI1.out]; simp),if_pos HI.out,hx])
    rw [hx] at HON
    clear hx
    go_wp2_with fail
    refine wp_region_dead 5 [true,true,true,true,true] rfl (by kernel_rfl) (by kernel_rfl) rfl ?_
    repeat ((with_reducible show wpX _ _ _ _ _ _ _ _);(first | refine wpX_nil ?_ | refine wpX_skip rfl ?_ | refine wpX_mv rfl rfl (by kernel_rfl) (fun _ _=>?_) | refine wpX_ldD rfl rfl rfl (by exact ⟨_,_,e2d⟩) (fun _ _=>?_));go_wp2_with fail)
    refine HON.out.mono ?_; intro e w6 he
    have HEE:=Lib.hid he
    obtain ⟨b,rfl⟩:=he.thrown
    clear he
    intro a' ha
    refine ⟨ha,?_⟩
    rw [HRR.out]
    exact HEE.out.relay HWC2.out
   | ok x r6=>
    have HRR:=Lib.hid (show one z (d + 1) ts = .ok (.un (hd z ts) [110,111,116] x) r6 by rw [one_eq,if_neg (by rw [HI1.out]; simp),if_pos HI.out,hx])
    rw [hx] at HON
    clear hx
    go_wp2_with fail
    refine wp_region_C [bp] rfl (by kernel_rfl) ?_
    have hS:Chg [bp] w2.drew w2.drew:=Chg.refl _ _
    repeat ((with_reducible refine gX ?_); (first | refine wpX_nil ?_ | refine sK ?_ | refine sM fun _ _=>?_ | refine sL (hz:=by exact Zone.of e2d (by simpa using hxb)) fun _ _=>?_ | refine sE fun _ _=>?_); go_wp2_with fail)
    refine HON.out.mono ?_; rintro e w6 ⟨hc6,v6,rfl,hv6,hp6⟩
    obtain ⟨b6,rfl⟩:=hv6.ptr
    have HC6:=Lib.hid hc6; have HV6:=Lib.hid hv6; have HP6:=Lib.hid hp6
    have hS2:=hc6
    clear hc6 hv6 hp6
    go_wp2_with fail
    refine And.intro (by assumption:Chg _ _ _) ?_
    repeat ((with_reducible refine gX ?_); (first | refine wpX_nil ?_ | refine sK ?_ | refine sM fun _ _=>?_ | refine sL (hz:=by exact Zone.of e2d (by simpa using hxb)) fun _ _=>?_ | refine sE fun _ _=>?_); go_wp2_with fail)
    refine And.intro (Chg.alloc (by assumption:Chg _ _ _) _) ?_
    repeat ((with_reducible refine gX ?_); (first | refine wpX_nil ?_ | refine sK ?_ | refine sM fun _ _=>?_ | refine sL (hz:=by exact Zone.of e2d (by simpa using hxb)) fun _ _=>?_ | refine sE fun _ _=>?_); go_wp2_with fail)
    go_ret
    rw [HRR.out]
    have hca:=(Chg.refl [bp] w6).alloc (.cells #[.int .i64 4,.int .i64 (hd z ts),.int .i64 0,str [],str [],str [110,111,116],ptr b6,nilp,nils] 83)
    refine ⟨(HWC2.out.then HC6.out).then hca,_,rfl,⟨w6.heap.size,ptr b6,rfl,⟨Nat.le_trans HWC2.out.size HC6.out.size,by simp⟩,Blk.new _ _ _,(EAt.later HV6.out HWC2.out.size).grown hbp hca⟩,HP6.out.kept ((Chg.refl [] w6).alloc _) (by simp) (by simp) (by simp)⟩
  | false=>
   have HI2:=Lib.hid hm
   clear hm
   go_wp2_with fail
   refine HT2.out.mono ?_; rintro _ w2 ⟨rfl,_,_,hw⟩
   rw [HI2.out]
   have hw':=(hw HI2.out).symm; subst hw'; clear hw
   have HT3:=Lib.hid (take_any [40] _ B bp bt z ts HP1.out)
   cases hm : see [40] ts with
   | true=>
    have HI:=Lib.hid hm
    clear hm
    go_wp2_with fail
    refine HT3.out.mono ?_; rintro _ w2 ⟨rfl,hp2,hc2,_⟩
    rw [HI.out]
    rw [skip,HI.out,if_pos rfl] at hp2
    have HWC2:=Lib.hid (HC1.out.then hc2)
    have HE2:=Lib.hid (HEX.out w2 B bp bt z ts.tail hp2)
    clear hp2 hc2
    go_wp2_with fail
    refine HE2.out.mono ?_; intro e w6 he
    rcases he.part with ⟨en,p,b,rfl,hx,HEE⟩ | ⟨x,r6,hx,he⟩
    ·go_wp2_with fail; exact ⟨rfl,by rw [show one z (d + 1) ts = .bad en p by rw [one_eq,if_neg (by rw [HI1.out]; simp),if_neg (by rw [HI2.out]; simp),if_pos HI.out,hx.out]]; exact HEE.out.relay HWC2.out⟩
    have HX:=hx
    obtain ⟨hc6,v6,rfl,hv6,hp6⟩:=he
    clear hx
    have HWC6:=Lib.hid (HWC2.out.then hc6)
    have HV6:=Lib.hid (EAt.later hv6 HWC2.out.size)
    have HMU:=Lib.hid (must_any [41] w6 B bp bt z r6 hp6)
    clear hc6 hv6 hp6
    go_wp2_with fail
    cases h8 : see [41] r6 with
    | false=>
     have HRR:=Lib.hid (show one z (d + 1) ts = .bad 3 (hd z r6) by rw [one_eq,if_neg (by rw [HI1.out]; simp),if_neg (by rw [HI2.out]; simp),if_pos HI.out,HX.out]; simp [must,h8])
     rw [must,h8,if_neg (by simp)] at HMU
     clear h8
     refine HMU.out.mono ?_; intro e w8 he
     have HEE:=Lib.hid he
     obtain ⟨b,rfl⟩:=he.thrown
     clear he
     go_wp2_with fail
     refine ⟨rfl,?_⟩
     rw [HRR.out]
     exact HEE.out.relay HWC6.out
    | true=>
     have HRR:=Lib.hid (show one z (d + 1) ts = .ok x r6.tail by rw [one_eq,if_neg (by rw [HI1.out]; simp),if_neg (by rw [HI2.out]; simp),if_pos HI.out,HX.out]; simp [must,h8])
     rw [must,h8,if_pos rfl] at HMU
     clear h8
     refine HMU.out.mono ?_; rintro e w8 ⟨hc8,_,rfl,rfl,hp8⟩
     have HC8:=Lib.hid hc8; have HP8:=Lib.hid hp8
     clear hc8 hp8
     go_wp2_with fail
     go_ret
     rw [HRR.out]
     exact ⟨HWC6.out.then HC8.out,_,rfl,HV6.out.grown hbp HC8.out,HP8.out⟩
   | false=>
    have HI3:=Lib.hid hm
    clear hm
    go_wp2_with fail
    refine HT3.out.mono ?_; rintro _ w2 ⟨rfl,_,_,hw⟩
    rw [HI3.out]
    have hw':=(hw HI3.out).symm; subst hw'; clear hw
    have e0 : w1.cell? ⟨w.heap.size,0,none⟩=some (.int .i64 kv):=HB1.out.cell 0 _ rfl
    cases hn : isNum ts with
    | true=>
     have HI:=Lib.hid hn
     have hk2 : (kv == 2)=true:=by rw [HK.out]; exact hn
     have e2d : w1.drew.cell? ⟨w.heap.size,2,none⟩=some (.int .i64 (hd z ts)):=HB1.out.cell 2 _ rfl
     have HWC2:=Lib.hid (HC1.out.drew)
     have HON:=Lib.hid (number_any 9223372036854775807 w1.drew B bp bt z ts (HP1.out.kept (Chg.refl [] w1).drew (by simp) (by simp) (by simp)))
     clear hn
     cases hx : number z 9223372036854775807 ts with
     | bad en p=>
      have HRR:=Lib.hid (show one z (d + 1) ts = .bad en p by rw [one_eq,if_neg (by rw [HI1.out]; simp),if_neg (by rw [HI2.out]; simp),if_neg (by rw [HI3.out]; simp),if_pos HI.out,hx])
      rw [hx] at HON
      clear hx
      go_wp2_with fail
      refine wp_region_dead 3 [true,true,true] rfl (by kernel_rfl) (by kernel_rfl) rfl ?_
      repeat ((with_reducible show wpX _ _ _ _ _ _ _ _);(first | refine wpX_nil ?_ | refine wpX_skip rfl ?_ | refine wpX_mv rfl rfl (by kernel_rfl) (fun _ _=>?_) | refine wpX_ldD rfl rfl rfl (by exact ⟨_,_,e2d⟩) (fun _ _=>?_));go_wp2_with fail)
      refine HON.out.mono ?_; intro e w6 he
      have HEE:=Lib.hid he
      obtain ⟨b,rfl⟩:=he.thrown
      clear he
      intro a' ha
      refine ⟨ha,?_⟩
      rw [HRR.out]
      exact HEE.out.relay HWC2.out
     | ok x r6=>
      have HRR:=Lib.hid (show one z (d + 1) ts = .ok (.num (hd z ts) x) r6 by rw [one_eq,if_neg (by rw [HI1.out]; simp),if_neg (by rw [HI2.out]; simp),if_neg (by rw [HI3.out]; simp),if_pos HI.out,hx])
      rw [hx] at HON
      clear hx
      go_wp2_with fail
      refine wp_region_C [bp] rfl (by kernel_rfl) ?_
      have hS:Chg [bp] w1.drew w1.drew:=Chg.refl _ _
      repeat ((with_reducible refine gX ?_); (first | refine wpX_nil ?_ | refine sK ?_ | refine sM fun _ _=>?_ | refine sL (hz:=by exact Zone.of e2d (by simpa using hxb)) fun _ _=>?_ | refine sE fun _ _=>?_); go_wp2_with fail)
      refine HON.out.mono ?_; rintro e w6 ⟨hc6,_,rfl,rfl,hp6⟩
      have HC6:=Lib.hid hc6; have HP6:=Lib.hid hp6
      have hS2:=hc6
      clear hc6 hp6
      go_wp2_with fail
      refine And.intro (by assumption:Chg _ _ _) ?_
      repeat ((with_reducible refine gX ?_); (first | refine wpX_nil ?_ | refine sK ?_ | refine sM fun _ _=>?_ | refine sL (hz:=by exact Zone.of e2d (by simpa using hxb)) fun _ _=>?_ | refine sE fun _ _=>?_); go_wp2_with fail)
      refine And.intro (Chg.alloc (by assumption:Chg _ _ _) _) ?_
      repeat ((with_reducible refine gX ?_); (first | refine wpX_nil ?_ | refine sK ?_ | refine sM fun _ _=>?_ | refine sL (hz:=by exact Zone.of e2d (by simpa using hxb)) fun _ _=>?_ | refine sE fun _ _=>?_); go_wp2_with fail)
      go_ret
      rw [HRR.out]
      have hca:=(Chg.refl [bp] w6).alloc (.cells #[.int .i64 1,.int .i64 (hd z ts),.int .i64 x,str [],str [],str [],nilp,nilp,nils] 83)
      refine ⟨(HWC2.out.then HC6.out).then hca,_,rfl,⟨w6.heap.size,rfl,⟨Nat.le_trans HWC2.out.size HC6.out.size,by simp⟩,Blk.new _ _ _⟩,HP6.out.kept ((Chg.refl [] w6).alloc _) (by simp) (by simp) (by simp)⟩
    | false=>
     have HI:=Lib.hid hn
     have hk2 : (kv == 2)=false:=by rw [HK.out]; exact hn
     have HNN:=Lib.hid (HNA.out w1 B bp bt z ts HP1.out)
     have HRR:=Lib.hid (show one z (d + 1) ts=named z (expr z (one z d) 5) ts by rw [one_eq,if_neg (by rw [HI1.out]; simp),if_neg (by rw [HI2.out]; simp),if_neg (by rw [HI3.out]; simp),if_neg (by rw [HI.out]; simp)])
     clear hn
     cases hx : named z (expr z (one z d) 5) ts with
     | bad en p=>
      rw [hx] at HRR
      rw [hx] at HNN
      clear hx
      go_wp2_with fail
      refine HNN.out.mono ?_; intro e w6 he
      have HEE:=Lib.hid he
      obtain ⟨b,rfl⟩:=he.thrown
      clear he
      go_wp2_with fail
      refine ⟨rfl,?_⟩
      rw [HRR.out]
      exact HEE.out.relay HC1.out
     | ok x r6=>
      rw [hx] at HRR
      rw [hx] at HNN
      clear hx
      go_wp2_with fail
      refine HNN.out.mono ?_; rintro e w6 ⟨hc6,v6,rfl,hv6,hp6⟩
      have HC6:=Lib.hid hc6; have HV6:=Lib.hid hv6; have HP6:=Lib.hid hp6
      clear hc6 hv6 hp6
      go_wp2_with fail
      go_ret
      rw [HRR.out]
      exact ⟨HC1.out.then HC6.out,_,rfl,EAt.later HV6.out HC1.out.size,HP6.out⟩
theorem one_any : ∀ d deep,deep + d=11→OneOK deep d:=by
 intro d
 induction d with
 | zero=>intro deep h; rw [show deep=11 by omega]; exact one_zero
 | succ d ih=>exact fun deep h=>one_step deep d h (ih (deep + 1) (by omega))
theorem ex_any (deep d:Nat) (h : deep + d=11):ExOK 0 deep (fun z=>expr z (one z d) 5):=expr_level deep d (one_any d deep h) (fun z=>(one_eats z d).mono) (by omega) 5 (Nat.le_refl _)
end Go.Proofs.YtilhhkokdfajiaaGreatDoor
namespace Go.Mq.Tree
open Go Go.RowKit Go.Mq
def EndedS {α:Type} (w:World) (B bp bs' bt z:Nat) (r:R α) (V:World→α→Prop) (e:Ending) (w':World):Prop:=Chg [bp,bs'] w w'∧match r with
 | .ok a ts=>e = .returned (.tuple #[])∧V w' a∧Par w' B bp bt z ts
 | .bad en p=>∃ b,e = .panicked [{ v:=.iface 51 (.agg #[.iface 94 (ptr b)]),recovered:=false }]∧w.heap.size≤b∧Blk w' b #[.int .i64 en,.int .i64 p] 96
theorem EndedS.part {α:Type} {w w2:World} {B bp bs' bt z:Nat} {o:R α} {V:World→α→Prop} {e:Ending} (h:EndedS w B bp bs' bt z o V e w2) :
  (∃ en q b,e = .panicked [{ v:=.iface 51 (.agg #[.iface 94 (ptr b)]),recovered:=false }]∧Hid (o = .bad en q)∧Hid (EndedS w B bp bs' bt z (.bad en q:R α) V (.panicked [{ v:=.iface 51 (.agg #[.iface 94 (ptr b)]),recovered:=false }]) w2)) ∨
  ∃ a r,Hid (o = .ok a r)∧EndedS w B bp bs' bt z (.ok a r) V e w2:=by
 cases o with
 | bad en q=>obtain ⟨hc,b,rfl,hb⟩:=h; exact .inl ⟨en,q,b,rfl,Lib.hid rfl,Lib.hid ⟨hc,b,rfl,hb⟩⟩
 | ok a r=>exact .inr ⟨a,r,Lib.hid rfl,h⟩
theorem EndedS.cut {α:Type} {w w2:World} {B bp bs' bt z:Nat} {o:R α} {V:World→α→Prop} {e:Ending} (h:EndedS w B bp bs' bt z o V e w2) :
  (∃ en q b,e = .panicked [{ v:=.iface 51 (.agg #[.iface 94 (ptr b)]),recovered:=false }]∧Hid (o = .bad en q)∧Hid (Chg [bp,bs'] w w2∧w.heap.size≤b∧Blk w2 b #[.int .i64 en,.int .i64 q] 96)) ∨
  ∃ a r,e = .returned (.tuple #[])∧Hid (o = .ok a r)∧V w2 a∧Chg [bp,bs'] w w2∧Par w2 B bp bt z r:=by
 cases o with
 | bad en q=>
  obtain ⟨hc,b,he,hb,hB⟩:=h
  exact .inl ⟨en,q,b,he,Lib.hid rfl,Lib.hid ⟨hc,hb,hB⟩⟩
 | ok a r=>
  obtain ⟨hc,he,hv,hp⟩:=h
  exact .inr ⟨a,r,he,Lib.hid rfl,hv,hc,hp⟩
abbrev New2 (w w':World):Nat→Prop:=fun b=>w.heap.size + 2≤b∧b < w'.heap.size
theorem framed_Names (l:List (List UInt8)) (v:Value):Framed (fun w F=>NamesAt w F l v):=⟨fun hF h=>h.mono hF,fun hc hS h=>h.kept hc hS⟩
theorem framed_Sl (s:S) (v:Value):Framed (fun w F=>SlAt w F s v):=⟨fun hF h=>h.mono hF,fun hc hS h=>h.kept hc hS⟩
theorem framed_true:Framed (fun _ _=>True):=⟨fun _ h=>h,fun _ _ h=>h⟩
theorem Framed.and {Q Q':World→(Nat→Prop)→Prop} (h:Framed Q) (h':Framed Q'):Framed (fun w F=>Q w F∧Q' w F):=⟨fun hF x=>⟨h.mono hF x.1,h'.mono hF x.2⟩,fun hc hS x=>⟨h.kept hc hS x.1,h'.kept hc hS x.2⟩⟩
structure Mk (T:TypeId) (w wk:World) (B bp bt z:Nat) (tk:List Tok) (zs cs:Array Value) (Q:World→(Nat→Prop)→Prop):Prop where
 fr:Framed Q
 hbp : bp < w.heap.size
 hbt : bt < w.heap.size
 chg:Chg [bp] w wk
 par:Par wk B bp bt z tk
 blk:Blk wk (w.heap.size + 1) cs T
 res:Blk wk w.heap.size zs T
 sz : w.heap.size + 2≤wk.heap.size
 q:Q wk (New2 w wk)
section
variable {T:TypeId} {w wk w':World} {B bp bt z:Nat} {tk t':List Tok} {zs cs:Array Value} {Q Q':World→(Nat→Prop)→Prop}
theorem Mk.step (h:Mk T w wk B bp bt z tk zs cs Q) (hc:Chg [bp] wk w') (hp:Par w' B bp bt z t'):Mk T w w' B bp bt z t' zs cs Q:=
 ⟨h.fr,h.hbp,h.hbt,h.chg.then hc,hp,h.blk.kept hc (by have:=h.hbp; simp; omega),h.res.kept hc (by have:=h.hbp; simp; omega),Nat.le_trans h.sz hc.size,
  h.fr.mono (fun x hx=>⟨hx.1,Nat.lt_of_lt_of_le hx.2 hc.size⟩) (h.fr.kept hc (fun x hx hn=>by have:=h.hbp; simp at hx; have:=hn.1; omega) h.q)⟩
theorem Mk.add (h:Mk T w wk B bp bt z tk zs cs Q) (hf:Framed Q') (hq:Q' wk (New2 w wk)):Mk T w wk B bp bt z tk zs cs (fun w F=>Q w F∧Q' w F):=
 ⟨h.fr.and hf,h.hbp,h.hbt,h.chg,h.par,h.blk,h.res,h.sz,h.q,hq⟩
theorem Mk.call (h:Mk T w wk B bp bt z tk zs cs Q) (hc:Chg [bp] wk w') (hp:Par w' B bp bt z t') (hf:Framed Q') (hq:Q' w' (New wk w')):Mk T w w' B bp bt z t' zs cs (fun w F=>Q w F∧Q' w F):=
 (h.step hc hp).add hf (hf.mono (fun _ hx=>⟨Nat.le_trans h.sz hx.1,hx.2⟩) hq)
theorem Mk.store (h:Mk T w wk B bp bt z tk zs cs Q) (i:Nat) (v:Value):Mk T w (wk.setCell ⟨w.heap.size + 1,i,none⟩ v) B bp bt z tk zs (cs.setIfInBounds i v) Q:=by
 have hc:Chg [w.heap.size + 1] wk (wk.setCell ⟨w.heap.size + 1,i,none⟩ v):=Chg.set1 _ _ _ _
 have h1:=h.hbp; have h2:=h.hbt; have h3:=h.par.laid.le; have h4:=h.par.bpB
 exact ⟨h.fr,h1,h2,h.chg.trans hc (fun x hx=>.inr (by simp at hx; omega)),h.par.kept hc (fun x hx=>by simp at hx; omega) (by simp; omega) (by simp; omega),h.blk.set i v,h.res.kept hc (by simp),Nat.le_trans h.sz hc.size,
  h.fr.mono (fun x hx=>⟨hx.1,Nat.lt_of_lt_of_le hx.2 hc.size⟩) (h.fr.kept hc (fun x hx hn=>by simp at hx; have:=hn.1; omega) h.q)⟩
theorem Mk.fin (h:Mk T w wk B bp bt z tk zs cs Q) (hc:Chg [w.heap.size] wk w'):Q w' (New w w'):=
 h.fr.mono (fun x hx=>⟨by have:=hx.1; omega,Nat.lt_of_lt_of_le hx.2 hc.size⟩) (h.fr.kept hc (fun x hx hn=>by simp at hx; have:=hn.1; omega) h.q)
end
theorem Mk.loop {T:TypeId} {w wk w':World} {B bp bt z:Nat} {tk t':List Tok} {zs cs cs':Array Value} {Q:World→(Nat→Prop)→Prop} (h:Mk T w wk B bp bt z tk zs cs Q) (hc:Chg [bp,w.heap.size + 1] wk w') (hp:Par w' B bp bt z t') (hb:Blk w' (w.heap.size + 1) cs' T):Mk T w w' B bp bt z t' zs cs' Q:=
 ⟨h.fr,h.hbp,h.hbt,h.chg.trans hc (fun x hx=>by simp at hx; rcases hx with rfl | rfl; exact .inl (by simp); exact .inr (by omega)),hp,hb,h.res.kept hc (by have:=h.hbp; simp; omega),Nat.le_trans h.sz hc.size,
  h.fr.mono (fun x hx=>⟨hx.1,Nat.lt_of_lt_of_le hx.2 hc.size⟩) (h.fr.kept hc (fun x hx hn=>by have:=h.hbp; simp at hx; have:=hn.1; omega) h.q)⟩
theorem Mk.bad {T:TypeId} {w wk w2:World} {B bp bt z:Nat} {tk:List Tok} {zs cs:Array Value} {Q:World→(Nat→Prop)→Prop} {β:Type} {o:R β} {V:World→β→Value→Prop} {en q b:Nat} (h:Mk T w wk B bp bt z tk zs cs Q) (hE:Chg [bp,w.heap.size + 1] wk w2∧wk.heap.size≤b∧Blk w2 b #[.int .i64 en,.int .i64 q] 96) (e : o = .bad en q) :
  Ended w B bp bt z o V (.panicked [{ v:=.iface 51 (.agg #[.iface 94 (ptr b)]),recovered:=false }]) w2:=by
 subst e
 exact ⟨h.chg.trans hE.1 (fun x hx=>by simp at hx; rcases hx with rfl | rfl; exact .inl (by simp); exact .inr (by omega)),b,rfl,Nat.le_trans h.chg.size hE.2.1,hE.2.2⟩
end Go.Mq.Tree
