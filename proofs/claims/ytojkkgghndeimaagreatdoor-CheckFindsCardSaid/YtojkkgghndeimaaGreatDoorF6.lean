/- Some texts in one. -/
import Derived.MapKept
import Derived.Test.YtojkkgghndeimaaGreatDoorF1
import Derived.Test.YtojkkgghndeimaaGreatDoorF5
namespace Go.Proofs.YtojkkgghndeimaaGreatDoor
open Go Go.RowKit Go.Mq Go.Mq.Tree
set_option maxRecDepth 100000
theorem par_nil {w:World} {B bp bt z:Nat} (h:Par w B bp bt z []) : ∃ off c,w.cell? ⟨bp,0,none⟩=some (.slice (some ⟨bt,off,none⟩) 1 c)∧w.cell? ⟨bt,off,none⟩=some (.int .i64 4)∧w.cell? ⟨bt,off + 2,none⟩=some (.int .i64 z)∧1≤c:=by
 obtain ⟨off,c,hb,hl,hc⟩:=h.at_
 exact ⟨off,c,hb.cell 0 _ rfl,hc 0 _ rfl,hc 2 _ rfl,hl⟩
theorem par_cons {w:World} {B bp bt z:Nat} {t:Tok} {r:List Tok} (h:Par w B bp bt z (t :: r)) : ∃ off c,Blk w bp #[.slice (some ⟨bt,off,none⟩) (r.length + 2) c] 98 ∧
  w.cell? ⟨bp,0,none⟩=some (.slice (some ⟨bt,off,none⟩) (r.length + 2) c)∧w.cell? ⟨bt,off,none⟩=some (.int .i64 t.kind.num)∧w.cell? ⟨bt,off + 1,none⟩=some (str t.text)∧w.cell? ⟨bt,off + 2,none⟩=some (.int .i64 t.pos)∧r.length + 2≤c ∧
  ∀ i v,(toksCells z r)[i]?=some v→w.cell? ⟨bt,off + 3 + i,none⟩=some v:=by
 obtain ⟨off,c,hb,hl,hc⟩:=h.at_
 refine ⟨off,c,hb,hb.cell 0 _ rfl,hc 0 _ rfl,hc 1 _ rfl,hc 2 _ rfl,hl,fun i v hi=>?_⟩
 rw [Nat.add_assoc]
 refine hc (3 + i) v ?_
 simpa [toksCells,Tok.cells,Nat.add_comm 3 i] using hi
theorem kind_ne (k:Kind) : (((k.num:Nat):Int) != 4)=true:=by cases k <;> decide
theorem see_any (s:List UInt8) (w:World) (B bp bt z:Nat) (ts:List Tok) (h:Par w B bp bt z ts) :
  Calls Tryz.prog 104 #[ptr bp,str s] w (fun e w'=>e = .returned (.bool (see s ts))∧w'=w):=by
 cases ts with
 | nil=>
  obtain ⟨off,c,c0,c1,_,hl⟩:=par_nil h
  clear h
  go_enter Tryz.func104,Tryz.ntmps104
  go_wp2_with fail
  go_ret
  exact ⟨rfl,rfl⟩
 | cons t r=>
  obtain ⟨off,c,_,c0,c1,c2,_,hl,_⟩:=par_cons h
  have hk:=kind_ne t.kind
  clear h
  go_enter Tryz.func104,Tryz.ntmps104
  go_wp2_with fail
  go_ret
  exact ⟨rfl,rfl⟩
theorem par_tail {w:World} {B bp bt z:Nat} {t:Tok} {r:List Tok} {off c:Nat} (h:Par w B bp bt z (t :: r)) (hb:Blk w bp #[.slice (some ⟨bt,off,none⟩) (r.length + 2) c] 98) (hl : r.length + 2≤c)
  (hc : ∀ i v,(toksCells z r)[i]?=some v→w.cell? ⟨bt,off + 3 + i,none⟩=some v) :
  Par (w.setCell ⟨bp,0,none⟩ (.slice (some ⟨bt,off + 3,none⟩) (r.length + 1) (c - 1))) B bp bt z r∧Chg [bp] w (w.setCell ⟨bp,0,none⟩ (.slice (some ⟨bt,off + 3,none⟩) (r.length + 1) (c - 1))):=by
 have hch:=Chg.set1 w bp 0 (.slice (some ⟨bt,off + 3,none⟩) (r.length + 1) (c - 1))
 have hB:=h.bpB
 refine ⟨⟨h.laid.kept hch (fun x hx=>by simp at hx; omega),h.bpB,h.btB,h.ne,by have:=h.few; simp at this; omega,fun t ht=>h.short t (List.mem_cons_of_mem _ ht),off + 3,c - 1,?_,by omega,fun i v hi=>hch.cellSome (hc i v hi) (by simpa using h.ne)⟩,hch⟩
 have:=hb.set 0 (.slice (some ⟨bt,off + 3,none⟩) (r.length + 1) (c - 1))
 simpa using this
theorem take_any (s:List UInt8) (w:World) (B bp bt z:Nat) (ts:List Tok) (h:Par w B bp bt z ts) :
  Calls Tryz.prog 101 #[ptr bp,str s] w (fun e w'=>e = .returned (.bool (see s ts))∧Par w' B bp bt z (skip s ts)∧Chg [bp] w w'∧(see s ts=false→w'=w)):=by
 have HS:=Lib.hid (see_any s w B bp bt z ts h)
 have H:=Lib.hid h
 cases hs : see s ts with
 | false=>
  have HI:=Lib.hid hs
  clear h hs
  go_enter Tryz.func101,Tryz.ntmps101
  go_wp2_with fail
  refine HS.out.mono ?_; rintro _ w1 ⟨rfl,rfl⟩
  rw [HI.out]
  go_wp2_with fail
  go_ret
  refine ⟨rfl,?_,Chg.refl _ _,fun _=>rfl⟩
  rw [skip,HI.out]
  exact H.out
 | true=>
  cases ts with
  | nil=>cases hs
  | cons t r=>
   obtain ⟨off,c,hb,c0,c1,c2,_,hl,hc⟩:=par_cons h
   have hf:=hb.frozen 0
   have HI:=Lib.hid hs
   have HT:=Lib.hid (par_tail h hb hl hc)
   clear h hs hc hb c1 c2
   go_enter Tryz.func101,Tryz.ntmps101
   go_wp2_with fail
   refine HS.out.mono ?_; rintro _ w1 ⟨rfl,rfl⟩
   rw [HI.out]
   go_wp2_with fail
   go_ret
   refine ⟨rfl,?_,HT.out.2,fun h=>by cases h⟩
   rw [skip,HI.out]
   exact HT.out.1
theorem fail_any (en:Nat) (w:World) (B bp bt z:Nat) (ts:List Tok) (h:Par w B bp bt z ts) :
  Calls Tryz.prog 51 #[ptr bp,.int .i64 en] w (Ended w B bp bt z (.bad en (hd z ts):R Unit) (fun _ _ _=>True)):=by
 have key : ∃ off c n,w.cell? ⟨bp,0,none⟩=some (.slice (some ⟨bt,off,none⟩) (n + 1) c)∧w.cell? ⟨bt,off + 2,none⟩=some (.int .i64 (hd z ts)):=by
  cases ts with
  | nil=>obtain ⟨off,c,c0,_,c2,_⟩:=par_nil h; exact ⟨off,c,0,c0,c2⟩
  | cons t r=>obtain ⟨off,c,_,c0,_,_,c2,_⟩:=par_cons h; exact ⟨off,c,r.length + 1,c0,c2⟩
 obtain ⟨off,c,n,c0,c2⟩:=key
 clear h
 go_enter Tryz.func51,Tryz.ntmps51
 go_wp2_with fail
 refine ⟨rfl,(Chg.refl _ _).alloc _,w.heap.size,rfl,Nat.le_refl _,Blk.new _ _ _⟩
theorem must_any (s:List UInt8) (w:World) (B bp bt z:Nat) (ts:List Tok) (h:Par w B bp bt z ts) :
  Calls Tryz.prog 99 #[ptr bp,str s] w (Ended w B bp bt z (must z s ts) (fun _ _ v=>v = .tuple #[])):=by
 have HT:=Lib.hid (take_any s w B bp bt z ts h)
 cases hs : see s ts with
 | false=>
  have HI:=Lib.hid hs
  have HF:=Lib.hid (fail_any 3 w B bp bt z ts h)
  clear h hs
  go_enter Tryz.func99,Tryz.ntmps99
  go_wp2_with fail
  refine HT.out.mono ?_; rintro _ w1 ⟨rfl,_,_,hw⟩
  rw [HI.out]
  have hw':=hw HI.out
  subst hw'
  go_wp2_with fail
  refine HF.out.mono ?_; rintro e w2 ⟨hc,b,rfl,hb⟩
  go_wp2_with fail
  refine ⟨rfl,?_⟩
  rw [must,HI.out]
  exact ⟨hc,b,rfl,hb⟩
 | true=>
  have HI:=Lib.hid hs
  clear h hs
  go_enter Tryz.func99,Tryz.ntmps99
  go_wp2_with fail
  refine HT.out.mono ?_; rintro _ w1 ⟨rfl,hp,hc,_⟩
  rw [HI.out]
  go_wp2_with fail
  refine bodyPost_end (results_none rfl _ _ _) rfl ?_
  rw [must,HI.out]
  refine ⟨hc,_,rfl,rfl,?_⟩
  rw [skip,HI.out] at hp
  exact hp
end Go.Proofs.YtojkkgghndeimaaGreatDoor
namespace Go.Mq.Tree
open Go Go.RowKit Go.Mq
def ents (ks:List (List UInt8)) (n:Nat):List MapEntry:=match ks with
 | []=>[]
 | k :: r=>{ key:=str k,val:=.int .i64 1,born:=n } :: ents r (n + 1)
theorem ents_snoc (ks:List (List UInt8)) (k:List UInt8) : ∀ n,ents (ks ++ [k]) n=ents ks n ++ [{ key:=str k,val:=.int .i64 1,born:=n + ks.length }]:=by
 induction ks with
 | nil=>intro n; simp [ents]
 | cons x r ih=>intro n; simp [ents,ih]; omega
def mw (w:World) (m i:Nat):World:={ w with heap:=w.heap.setIfInBounds m (.map (ents (keptWords.take i) 0).toArray (min i keptWords.length)) }
theorem bs_beq (a b:List UInt8) : (bs a == bs b)=(a == b):=by
 rw [Bool.eq_iff_iff,MapKept.bytes_beq,beq_iff_eq]
 constructor
 ·intro h; simpa using congrArg (fun x:ByteArray=>x.data.toList) h
 ·rintro rfl; rfl
theorem find_ents (k:List UInt8) (ks:List (List UInt8)) : ∀ n i,∃ j,Instr.findNow .string (str k) (ents ks n) i=some (if ks.contains k then some (j,.int .i64 1) else none):=by
 induction ks with
 | nil=>intro n i; exact ⟨0,rfl⟩
 | cons x r ih=>
  intro n i
  simp only [ents,Instr.findNow,Instr.sameNow,str,List.contains_cons]
  have e:=bs_beq k x
  cases h : k == x with
  | true=>rw [h] at e; exact ⟨i,by simp [e]⟩
  | false=>
   rw [h] at e
   obtain ⟨j,hj⟩:=ih (n + 1) (i + 1)
   refine ⟨j,?_⟩
   simp only [e,Bool.false_or]
   exact hj
section
variable {P:Program} {T K E:TypeId}
theorem tgetm {w:World} {r:Nat} {es:Array MapEntry} {clock:Nat} (hb : w.heap[r]?=some (.map es clock)) : (getObj r).run P w = .ok (.map es clock) w:=by simp [getObj,Sem.run,hb]
theorem tsetm {w:World} {r:Nat} {es:Array MapEntry} {clock:Nat} (o:Obj) (hb : w.heap[r]?=some (.map es clock)) : (setObj r o).run P w = .ok () { w with heap:=w.heap.setIfInBounds r o }:=by simp [setObj,Sem.run,hb]
theorem run_cks {w:World} (hK:P.underlying K=some .string) (e:Bool) (b:ByteArray) : (Instr.checkKey e 10000 K (.string b)).run P w = .ok () w:=by
 rw [show (10000:Nat)=9999 + 1 from rfl,Instr.checkKey]
 simp [run_underlying hK]
theorem mw_get (w:World) (m i:Nat) (hm : m < w.heap.size) : (mw w m i).heap[m]?=some (.map (ents (keptWords.take i) 0).toArray (min i keptWords.length)):=by
 simp [mw,hm]
theorem mw_ins (hT:P.underlying T=some (.map K E)) (hK:P.underlying K=some .string) (w:World) (m i:Nat) (k:List UInt8) (hm : m < w.heap.size) (hi : i < keptWords.length) (hk : keptWords[i]?=some k) (hn : (keptWords.take i).contains k=false) :
  (Instr.mapUpdate T (.map (some m)) (str k) (.int .i64 1)).run P (mw w m i) = .ok () (mw w m (i + 1)):=by
 have hb:=mw_get w m i hm
 obtain ⟨j,hj⟩:=find_ents k (keptWords.take i) 0 0
 rw [hn] at hj
 simp only [Bool.false_eq_true,if_false] at hj
 simp only [Instr.mapUpdate,Sem.run_bind,run_underlying hT,Result.andThen_ok,tgetm hb,run_cks hK,Instr.findKey,run_underlying hK,hj,Sem.run_pure,tsetm _ hb]
 congr 1
 simp only [mw,World.mk.injEq,and_true,Array.setIfInBounds_setIfInBounds]
 have e2 : keptWords.take (i + 1)=keptWords.take i ++ [k]:=by rw [List.take_add_one,hk]; rfl
 have e3 : (keptWords.take i).length=i:=by simp; omega
 have e4 : keptWords.length=21:=rfl
 rw [e2,ents_snoc,e3,e4]
 rw [e4] at hi
 rw [show min (i + 1) 21=min i 21 + 1 by omega,show min i 21=i by omega]
 simp
theorem mw_look (hT:P.underlying T=some (.map K E)) (hK:P.underlying K=some .string) (hE : ∀ w,(zeroValue E).run P w = .ok (.int .i64 0) w) (w:World) (m:Nat) (k:List UInt8) (hm : m < w.heap.size) :
  (Instr.lookup T (.map (some m)) (str k) false).run P (mw w m 21) = .ok (.int .i64 (if kept k then 1 else 0)) (mw w m 21):=by
 have hb:=mw_get w m 21 hm
 obtain ⟨j,hj⟩:=find_ents k (keptWords.take 21) 0 0
 rw [show keptWords.take 21=keptWords from rfl] at hj hb
 unfold kept
 cases h : keptWords.contains k <;> rw [h] at hj <;> simp only [Bool.false_eq_true,if_false,if_true] at hj <;>
  simp [Instr.lookup,run_underlying hT,tgetm hb,run_cks hK,Instr.findKey,run_underlying hK,hj,hE]
end
theorem mw_zero (w:World) : w.alloc (.map #[] 0)=mw (w.alloc (.map #[] 0)) w.heap.size 0:=by
 have e : (w.alloc (.map #[] 0)).heap=(w.alloc (.map #[] 0)).heap.setIfInBounds w.heap.size (.map (ents (keptWords.take 0) 0).toArray (min 0 keptWords.length)):=by
  apply Array.ext_getElem?
  intro i
  rw [Array.getElem?_setIfInBounds]
  by_cases h : w.heap.size=i
  ·subst h
   rw [heap_alloc_new]
   simp [ents]
  ·simp [h]
 unfold mw
 rw [← e]
theorem mw_chg (w:World) (i:Nat):Chg [] w (mw (w.alloc (.map #[] 0)) w.heap.size i):=by
 refine ⟨rfl,rfl,rfl,by simp [mw],fun k hk _=>?_⟩
 have : ((w.alloc (.map #[] 0)).heap.setIfInBounds w.heap.size (.map (ents (keptWords.take i) 0).toArray (min i keptWords.length)))[k]?=w.heap[k]?:=by
  rw [Array.getElem?_setIfInBounds_ne (by omega)]
  exact Below.heap_alloc w _ k hk
 exact this
end Go.Mq.Tree
namespace Go.Proofs.YtojkkgghndeimaaGreatDoor
open Go Go.RowKit Go.Mq Go.Mq.Tree
set_option maxRecDepth 100000
set_option maxHeartbeats 2000000
theorem kept_any (s:List UInt8) (w:World) :
  Calls Tryz.prog 147 #[str s] w (fun e w'=>e = .returned (.bool (kept s))∧Chg [] w w'):=by
 have hmm : ∀ w,(Instr.makeMap 122 none).run Tryz.prog w = .ok (.map (some w.heap.size)) (mw (w.alloc (.map #[] 0)) w.heap.size 0):=fun w=>by rw [← mw_zero]; exact run_makeMap _ _
 have hm : w.heap.size < (w.alloc (.map #[] 0)).heap.size:=by simp
 have hz : ∀ w,(zeroValue 3).run Tryz.prog w = .ok (.int .i64 0) w:=Tryz.zeroValue3
 have h0:=mw_ins (P:=Tryz.prog) Tryz.underlying122 Tryz.underlying9 (w.alloc (.map #[] 0)) w.heap.size 0 _ hm (by decide) rfl (by decide)
 have h1:=mw_ins (P:=Tryz.prog) Tryz.underlying122 Tryz.underlying9 (w.alloc (.map #[] 0)) w.heap.size 1 _ hm (by decide) rfl (by decide)
 have h2:=mw_ins (P:=Tryz.prog) Tryz.underlying122 Tryz.underlying9 (w.alloc (.map #[] 0)) w.heap.size 2 _ hm (by decide) rfl (by decide)
 have h3:=mw_ins (P:=Tryz.prog) Tryz.underlying122 Tryz.underlying9 (w.alloc (.map #[] 0)) w.heap.size 3 _ hm (by decide) rfl (by decide)
 have h4:=mw_ins (P:=Tryz.prog) Tryz.underlying122 Tryz.underlying9 (w.alloc (.map #[] 0)) w.heap.size 4 _ hm (by decide) rfl (by decide)
 have h5:=mw_ins (P:=Tryz.prog) Tryz.underlying122 Tryz.underlying9 (w.alloc (.map #[] 0)) w.heap.size 5 _ hm (by decide) rfl (by decide)
 have h6:=mw_ins (P:=Tryz.prog) Tryz.underlying122 Tryz.underlying9 (w.alloc (.map #[] 0)) w.heap.size 6 _ hm (by decide) rfl (by decide)
 have h7:=mw_ins (P:=Tryz.prog) Tryz.underlying122 Tryz.underlying9 (w.alloc (.map #[] 0)) w.heap.size 7 _ hm (by decide) rfl (by decide)
 have h8:=mw_ins (P:=Tryz.prog) Tryz.underlying122 Tryz.underlying9 (w.alloc (.map #[] 0)) w.heap.size 8 _ hm (by decide) rfl (by decide)
 have h9:=mw_ins (P:=Tryz.prog) Tryz.underlying122 Tryz.underlying9 (w.alloc (.map #[] 0)) w.heap.size 9 _ hm (by decide) rfl (by decide)
 have h10:=mw_ins (P:=Tryz.prog) Tryz.underlying122 Tryz.underlying9 (w.alloc (.map #[] 0)) w.heap.size 10 _ hm (by decide) rfl (by decide)
 have h11:=mw_ins (P:=Tryz.prog) Tryz.underlying122 Tryz.underlying9 (w.alloc (.map #[] 0)) w.heap.size 11 _ hm (by decide) rfl (by decide)
 have h12:=mw_ins (P:=Tryz.prog) Tryz.underlying122 Tryz.underlying9 (w.alloc (.map #[] 0)) w.heap.size 12 _ hm (by decide) rfl (by decide)
 have h13:=mw_ins (P:=Tryz.prog) Tryz.underlying122 Tryz.underlying9 (w.alloc (.map #[] 0)) w.heap.size 13 _ hm (by decide) rfl (by decide)
 have h14:=mw_ins (P:=Tryz.prog) Tryz.underlying122 Tryz.underlying9 (w.alloc (.map #[] 0)) w.heap.size 14 _ hm (by decide) rfl (by decide)
 have h15:=mw_ins (P:=Tryz.prog) Tryz.underlying122 Tryz.underlying9 (w.alloc (.map #[] 0)) w.heap.size 15 _ hm (by decide) rfl (by decide)
 have h16:=mw_ins (P:=Tryz.prog) Tryz.underlying122 Tryz.underlying9 (w.alloc (.map #[] 0)) w.heap.size 16 _ hm (by decide) rfl (by decide)
 have h17:=mw_ins (P:=Tryz.prog) Tryz.underlying122 Tryz.underlying9 (w.alloc (.map #[] 0)) w.heap.size 17 _ hm (by decide) rfl (by decide)
 have h18:=mw_ins (P:=Tryz.prog) Tryz.underlying122 Tryz.underlying9 (w.alloc (.map #[] 0)) w.heap.size 18 _ hm (by decide) rfl (by decide)
 have h19:=mw_ins (P:=Tryz.prog) Tryz.underlying122 Tryz.underlying9 (w.alloc (.map #[] 0)) w.heap.size 19 _ hm (by decide) rfl (by decide)
 have h20:=mw_ins (P:=Tryz.prog) Tryz.underlying122 Tryz.underlying9 (w.alloc (.map #[] 0)) w.heap.size 20 _ hm (by decide) rfl (by decide)
 have hl:=mw_look (P:=Tryz.prog) Tryz.underlying122 Tryz.underlying9 hz (w.alloc (.map #[] 0)) w.heap.size s hm
 have HC:=Lib.hid (mw_chg w 21)
 clear hz
 go_enter Tryz.func147,Tryz.ntmps147
 go_wp2_with fail
 all_goals
  go_ret
  exact ⟨rfl,HC.out⟩
end Go.Proofs.YtojkkgghndeimaaGreatDoor
namespace Go.Mq.Tree
open Go Go.RowKit Go.Mq
theorem Ended.relay {α β:Type} {w w1 w2:World} {B bp bt z en p:Nat} {V:World→α→Value→Prop} {V':World→β→Value→Prop} {e:Ending} (hc:Chg [bp] w w1) (h:Ended w1 B bp bt z (.bad en p:R α) V e w2):Ended w B bp bt z (.bad en p:R β) V' e w2:=by
 obtain ⟨hc2,b,he,hb,hB⟩:=h
 exact ⟨hc.then hc2,b,he,Nat.le_trans hc.size hb,hB⟩
theorem Ended.thrown {α:Type} {w w2:World} {B bp bt z en p:Nat} {V:World→α→Value→Prop} {e:Ending} (h:Ended w B bp bt z (.bad en p:R α) V e w2) : ∃ b,e = .panicked [{ v:=.iface 91 (.agg #[.iface 167 (ptr b)]),recovered:=false }]:=by
 obtain ⟨_,b,he,_⟩:=h
 exact ⟨b,he⟩
theorem Ended.part {α:Type} {w w2:World} {B bp bt z:Nat} {o:R α} {V:World→α→Value→Prop} {e:Ending} (h:Ended w B bp bt z o V e w2) :
  (∃ en q b,e = .panicked [{ v:=.iface 91 (.agg #[.iface 167 (ptr b)]),recovered:=false }]∧Hid (o = .bad en q)∧Hid (Ended w B bp bt z (.bad en q:R α) V (.panicked [{ v:=.iface 91 (.agg #[.iface 167 (ptr b)]),recovered:=false }]) w2)) ∨
  ∃ a r,Hid (o = .ok a r)∧Ended w B bp bt z (.ok a r) V e w2:=by
 cases o with
 | bad en q=>obtain ⟨b,rfl⟩:=h.thrown; exact .inl ⟨en,q,b,rfl,Lib.hid rfl,Lib.hid h⟩
 | ok a r=>exact .inr ⟨a,r,Lib.hid rfl,h⟩
theorem Ended.cut {α:Type} {w w2:World} {B bp bt z:Nat} {o:R α} {V:World→α→Value→Prop} {e:Ending} (h:Ended w B bp bt z o V e w2) :
  (∃ en q b,e = .panicked [{ v:=.iface 91 (.agg #[.iface 167 (ptr b)]),recovered:=false }]∧Hid (o = .bad en q)∧Hid (∀ {β:Type} (o':R β) V' w0,Chg [bp] w0 w→o' = .bad en q→Ended w0 B bp bt z o' V' (.panicked [{ v:=.iface 91 (.agg #[.iface 167 (ptr b)]),recovered:=false }]) w2)) ∨
  ∃ a r v,e = .returned v∧Hid (o = .ok a r)∧V w2 a v∧Chg [bp] w w2∧Par w2 B bp bt z r:=by
 cases o with
 | bad en q=>
  obtain ⟨hc,b,he,hb,hB⟩:=h
  exact .inl ⟨en,q,b,he,Lib.hid rfl,Lib.hid fun o' V' w0 h0 e=>e ▸ ⟨h0.then hc,b,rfl,Nat.le_trans h0.size hb,hB⟩⟩
 | ok a r=>
  obtain ⟨hc,v,he,hv,hp⟩:=h
  exact .inr ⟨a,r,v,he,Lib.hid rfl,hv,hc,hp⟩
end Go.Mq.Tree
namespace Go.Proofs.YtojkkgghndeimaaGreatDoor
open Go Go.RowKit Go.Mq Go.Mq.Tree
set_option maxRecDepth 100000
set_option maxHeartbeats 2000000
theorem tok_new {w w1:World} {k t p:Value} {ty:TypeId} (hc:Chg [] (w.alloc (.cells #[k,t,p] ty)) w1) : w1.cell? ⟨w.heap.size,0,none⟩=some k∧w1.cell? ⟨w.heap.size,1,none⟩=some t∧w1.cell? ⟨w.heap.size,2,none⟩=some p∧Chg [] w w1:=by
 have hb:=Blk.new w #[k,t,p] ty
 exact ⟨hc.cellSome (hb.cell 0 _ rfl) (by simp),hc.cellSome (hb.cell 1 _ rfl) (by simp),hc.cellSome (hb.cell 2 _ rfl) (by simp),((Chg.refl [] w).alloc _).then hc⟩
theorem name_any (w:World) (B bp bt z:Nat) (ts:List Tok) (h:Par w B bp bt z ts) :
  Calls Tryz.prog 100 #[ptr bp] w (Ended w B bp bt z (name z ts) (fun _ n v=>v=str n)):=by
 have H:=Lib.hid h
 cases ts with
 | nil=>
  obtain ⟨off,c,c0,c1,c2,hl⟩:=par_nil h
  have c1' : w.cell? ⟨bt,off + 1,none⟩=some (str []):=by
   obtain ⟨off',c',hb',hl',hc'⟩:=h.at_
   have e:=(hb'.cell 0 _ rfl).symm.trans c0
   simp at e
   rw [← e.1]
   exact hc' 1 _ rfl
  clear h
  go_enter Tryz.func100,Tryz.ntmps100
  go_wp2_with fail
  have hc:=(Chg.refl [bp] w).alloc (.cells #[.int .i64 4,str [],.int .i64 z] 101)
  refine (fail_any 3 _ B bp bt z [] (H.out.kept ((Chg.refl [] w).alloc _) (by simp) (by simp) (by simp))).mono ?_; intro e w2 he
  have HE:=Lib.hid he
  obtain ⟨b,rfl⟩:=he.thrown
  have HC:=Lib.hid hc; clear hc he
  go_wp2_with fail
  exact ⟨rfl,HE.out.relay HC.out⟩
 | cons t r=>
  obtain ⟨off,c,hb,c0,c1,c2,c3,hl,hcs⟩:=par_cons h
  have hf:=hb.frozen 0
  have HT:=Lib.hid (par_tail h hb hl hcs)
  have hP:=h.kept ((Chg.refl [] w).alloc (.cells #[.int .i64 t.kind.num,str t.text,.int .i64 t.pos] 101)) (by simp) (by simp) (by simp)
  have HP:=Lib.hid hP
  have hne:=h.ne
  have hbp : bp < w.heap.size:=hb.lt
  have HB:=Lib.hid (And.intro hb hl)
  have HK:=Lib.hid (kept_any t.text)
  have HS:=Lib.hid hcs
  clear hb hl hcs hP
  cases hkd : decide (t.kind = .word) with
  | false=>
   have hk : ((t.kind.num:Int) != 1)=true:=by cases hq : t.kind <;> simp_all [Kind.num]
   have HR:=Lib.hid (show name z (t :: r) = .bad 3 t.pos by rw [name,if_pos (.inl (of_decide_eq_false hkd))])
   clear h hkd
   go_enter Tryz.func100,Tryz.ntmps100
   go_wp2_with fail
   refine (fail_any 3 _ B bp bt z (t :: r) HP.out).mono ?_; intro e w2 he
   have HE:=Lib.hid he
   obtain ⟨b,rfl⟩:=he.thrown
   clear he
   go_wp2_with fail
   refine ⟨rfl,?_⟩
   rw [HR.out]
   exact HE.out.relay ((Chg.refl _ _).alloc _)
  | true=>
   have hk : ((t.kind.num:Int) != 1)=false:=by cases hq : t.kind <;> simp_all [Kind.num]
   have HW:=Lib.hid (of_decide_eq_true hkd)
   clear h hkd
   cases hkp : kept t.text with
   | true=>
    have HR:=Lib.hid (show name z (t :: r) = .bad 3 t.pos by rw [name,if_pos (.inr hkp)])
    have HKP:=Lib.hid hkp
    clear hkp
    go_enter Tryz.func100,Tryz.ntmps100
    go_wp2_with fail
    refine (HK.out _).mono ?_; rintro _ w1 ⟨rfl,hc⟩
    rw [HKP.out]
    have HC:=Lib.hid hc; clear hc
    go_wp2_with fail
    refine (fail_any 3 _ B bp bt z (t :: r) (HP.out.kept HC.out (by simp) (by simp) (by simp))).mono ?_; intro e w2 he
    have HE:=Lib.hid he
    obtain ⟨b,rfl⟩:=he.thrown
    clear he
    go_wp2_with fail
    refine ⟨rfl,?_⟩
    rw [HR.out]
    exact HE.out.relay (((Chg.refl [bp] w).alloc _).then HC.out.weak)
   | false=>
    cases hln : decide (10 < t.text.length) with
    | true=>
     have hln' : decide ((10:Int) < (t.text.length:Int))=true:=by have:=of_decide_eq_true hln; exact decide_eq_true (by omega)
     have HR:=Lib.hid (show name z (t :: r) = .bad 4 t.pos by rw [name,if_neg (by simp [HW.out,hkp]),if_pos (of_decide_eq_true hln)])
     have HKP:=Lib.hid hkp
     clear hkp hln
     go_enter Tryz.func100,Tryz.ntmps100
     go_wp2_with fail
     refine (HK.out _).mono ?_; rintro _ w1 ⟨rfl,hc⟩
     rw [HKP.out]
     have HC:=Lib.hid hc
     obtain ⟨d0,d1,d2,hc0⟩:=tok_new hc
     clear hc
     have HC0:=Lib.hid hc0; clear hc0
     go_wp2_with fail
     refine (fail_any 4 _ B bp bt z (t :: r) (HP.out.kept HC.out (by simp) (by simp) (by simp))).mono ?_; intro e w2 he
     have HE:=Lib.hid he
     obtain ⟨b,rfl⟩:=he.thrown
     clear he
     go_wp2_with fail
     refine ⟨rfl,?_⟩
     rw [HR.out]
     exact HE.out.relay (((Chg.refl [bp] w).alloc _).then HC.out.weak)
    | false=>
     have hln' : decide ((10:Int) < (t.text.length:Int))=false:=by have:=of_decide_eq_false hln; exact decide_eq_false (by omega)
     have HR:=Lib.hid (show name z (t :: r) = .ok t.text r by rw [name,if_neg (by simp [HW.out,hkp]),if_neg (of_decide_eq_false hln)])
     have HKP:=Lib.hid hkp
     have hnb : w.heap.size≠bp:=by omega
     have hl:=HB.out.2
     clear hkp hln
     go_enter Tryz.func100,Tryz.ntmps100
     go_wp2_with fail
     refine (HK.out _).mono ?_; rintro _ w1 ⟨rfl,hc⟩
     rw [HKP.out]
     obtain ⟨d0,d1,d2,hc0⟩:=tok_new hc
     clear hc
     have hb1:=HB.out.1.kept hc0 (by simp)
     have e0:=hb1.cell 0 _ rfl
     have ef:=hb1.frozen 0
     have hp1:=H.out.kept hc0 (by simp) (by simp) (by simp)
     have HT1:=Lib.hid (par_tail hp1 hb1 HB.out.2 (fun i v hi=>hc0.cellSome (HS.out i v hi) (by simp)))
     have HC0:=Lib.hid hc0; clear hc0 hp1 hb1
     go_wp2_with fail
     go_ret
     rw [HR.out]
     exact ⟨HC0.out.weak.then HT1.out.2,_,rfl,rfl,HT1.out.1⟩
end Go.Proofs.YtojkkgghndeimaaGreatDoor
