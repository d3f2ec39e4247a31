/- Some texts in one. -/
import Derived.MapKept
import Derived.Test.YtechofppmnnomaaGreatDoorB1
import Derived.Test.YtechofppmnnomaaGreatDoorB5
namespace Go.Proofs.YtechofppmnnomaaGreatDoor
open Go Go.RowKit Go.Mq Go.Mq.Tree
set_option maxRecDepth 100000
theorem yB {w:World} {B bp bt z:Nat} (h:bQ w B bp bt z []) : ∃ off c,w.cell? ⟨bp,0,none⟩=some (.slice (some ⟨bt,off,none⟩) 1 c)∧w.cell? ⟨bt,off,none⟩=some (.int .i64 4)∧w.cell? ⟨bt,off + 2,none⟩=some (.int .i64 z)∧1≤c:=by
 obtain⟨off,c,hb,hl,hc⟩:=h.at_;exact⟨off,c,hb.cell 0 _ rfl,hc 0 _ rfl,hc 2 _ rfl,hl⟩
theorem uJ {w:World} {B bp bt z:Nat} {t:Tok} {r:List Tok} (h:bQ w B bp bt z (t :: r)) : ∃ off c,ag w bp #[.slice (some ⟨bt,off,none⟩) (r.length + 2) c] 88 ∧
  w.cell? ⟨bp,0,none⟩=some (.slice (some ⟨bt,off,none⟩) (r.length + 2) c)∧w.cell? ⟨bt,off,none⟩=some (.int .i64 t.kind.num)∧w.cell? ⟨bt,off + 1,none⟩=some (str t.text)∧w.cell? ⟨bt,off + 2,none⟩=some (.int .i64 t.pos)∧r.length + 2≤c ∧
  ∀ i v,(uG z r)[i]?=some v→w.cell? ⟨bt,off + 3 + i,none⟩=some v:=by
 obtain⟨off,c,hb,hl,hc⟩:=h.at_;refine⟨off,c,hb,hb.cell 0 _ rfl,hc 0 _ rfl,hc 1 _ rfl,hc 2 _ rfl,hl,fun i v hi=>?_⟩;rw [Nat.add_assoc];refine hc (3 + i) v ?_
 simpa [uG,Tok.cells,Nat.add_comm 3 i] using hi
theorem OJ (k:Kind) : (((k.num:Nat):Int) != 4)=true:=by cases k <;> decide
theorem yl (s:List UInt8) (w:World) (B bp bt z:Nat) (ts:List Tok) (h:bQ w B bp bt z ts) :
  Calls Tryz.prog 74 #[ptr bp,str s] w (fun e w'=>e = .returned (.bool (see s ts))∧w'=w):=by
 cases ts with
 | nil=>
  obtain⟨off,c,c0,c1,_,hl⟩:=yB h;clear h
  go_enter Tryz.func74,Tryz.ntmps74
  go_wp2_with fail;go_ret
  exact⟨rfl,rfl⟩
 | cons t r=>
  obtain⟨off,c,_,c0,c1,c2,_,hl,_⟩:=uJ h;have hk:=OJ t.kind;clear h
  go_enter Tryz.func74,Tryz.ntmps74
  go_wp2_with fail;go_ret
  exact⟨rfl,rfl⟩
theorem IX {w:World} {B bp bt z:Nat} {t:Tok} {r:List Tok} {off c:Nat} (h:bQ w B bp bt z (t :: r)) (hb:ag w bp #[.slice (some ⟨bt,off,none⟩) (r.length + 2) c] 88) (hl : r.length + 2≤c)
  (hc : ∀ i v,(uG z r)[i]?=some v→w.cell? ⟨bt,off + 3 + i,none⟩=some v) :
  bQ (w.setCell ⟨bp,0,none⟩ (.slice (some ⟨bt,off + 3,none⟩) (r.length + 1) (c - 1))) B bp bt z r∧ae [bp] w (w.setCell ⟨bp,0,none⟩ (.slice (some ⟨bt,off + 3,none⟩) (r.length + 1) (c - 1))):=by
 have hch:=ae.set1 w bp 0 (.slice (some ⟨bt,off + 3,none⟩) (r.length + 1) (c - 1));have hB:=h.Ak;refine⟨⟨h.laid.kept hch (fun x hx=>by simp at hx;omega),h.Ak,h.Oi,h.ne,by have:=h.few;simp at this;omega,fun t ht=>h.short t (List.mem_cons_of_mem _ ht),off + 3,c - 1,?_,by omega,fun i v hi=>hch.aH (hc i v hi) (by simpa using h.ne)⟩,hch⟩;have:=hb.set 0 (.slice (some ⟨bt,off + 3,none⟩) (r.length + 1) (c - 1))
 simpa using this
theorem kQ (s:List UInt8) (w:World) (B bp bt z:Nat) (ts:List Tok) (h:bQ w B bp bt z ts) :
  Calls Tryz.prog 71 #[ptr bp,str s] w (fun e w'=>e = .returned (.bool (see s ts))∧bQ w' B bp bt z (skip s ts)∧ae [bp] w w'∧(see s ts=false→w'=w)):=by
 have HS:=zh (yl s w B bp bt z ts h);have H:=zh h;cases hs : see s ts with
 | false=>
  have HI:=zh hs;clear h hs
  go_enter Tryz.func71,Tryz.ntmps71
  go_wp2_with fail;refine HS.out.mono ?_;rintro _ w1 ⟨rfl,rfl⟩;rw [HI.out];go_wp2_with fail;go_ret
  refine⟨rfl,?_,ae.refl _ _,fun _=>rfl⟩;rw [skip,HI.out];exact H.out
 | true=>
  cases ts with
  | nil=>cases hs
  | cons t r=>
   obtain⟨off,c,hb,c0,c1,c2,_,hl,hc⟩:=uJ h;have hf:=hb.frozen 0;have HI:=zh hs;have HT:=zh (IX h hb hl hc);clear h hs hc hb c1 c2
   go_enter Tryz.func71,Tryz.ntmps71
   go_wp2_with fail;refine HS.out.mono ?_;rintro _ w1 ⟨rfl,rfl⟩;rw [HI.out];go_wp2_with fail;go_ret
   refine⟨rfl,?_,HT.out.2,fun h=>by cases h⟩;rw [skip,HI.out];exact HT.out.1
theorem lF (en:Nat) (w:World) (B bp bt z:Nat) (ts:List Tok) (h:bQ w B bp bt z ts) :
  Calls Tryz.prog 36 #[ptr bp,.int .i64 en] w (eP w B bp bt z (.bad en (hd z ts):R Unit) (fun _ _ _=>True)):=by
 have key : ∃ off c n,w.cell? ⟨bp,0,none⟩=some (.slice (some ⟨bt,off,none⟩) (n + 1) c)∧w.cell? ⟨bt,off + 2,none⟩=some (.int .i64 (hd z ts)):=by
  cases ts with
  | nil=>obtain⟨off,c,c0,_,c2,_⟩:=yB h;exact⟨off,c,0,c0,c2⟩
  | cons t r=>obtain⟨off,c,_,c0,_,_,c2,_⟩:=uJ h;exact⟨off,c,r.length + 1,c0,c2⟩
 obtain⟨off,c,n,c0,c2⟩:=key;clear h
 go_enter Tryz.func36,Tryz.ntmps36
 go_wp2_with fail;refine⟨rfl,(ae.refl _ _).alloc _,w.heap.size,rfl,Nat.le_refl _,ag.new _ _ _⟩
theorem gN (s:List UInt8) (w:World) (B bp bt z:Nat) (ts:List Tok) (h:bQ w B bp bt z ts) :
  Calls Tryz.prog 69 #[ptr bp,str s] w (eP w B bp bt z (must z s ts) (fun _ _ v=>v = .tuple #[])):=by
 have HT:=zh (kQ s w B bp bt z ts h);cases hs : see s ts with
 | false=>
  have HI:=zh hs;have HF:=zh (lF 3 w B bp bt z ts h);clear h hs
  go_enter Tryz.func69,Tryz.ntmps69
  go_wp2_with fail;refine HT.out.mono ?_;rintro _ w1 ⟨rfl,_,_,hw⟩;rw [HI.out];have hw':=hw HI.out;subst hw';go_wp2_with fail;refine HF.out.mono ?_;rintro e w2 ⟨hc,b,rfl,hb⟩;go_wp2_with fail;refine⟨rfl,?_⟩;rw [must,HI.out];exact⟨hc,b,rfl,hb⟩
 | true=>
  have HI:=zh hs;clear h hs
  go_enter Tryz.func69,Tryz.ntmps69
  go_wp2_with fail;refine HT.out.mono ?_;rintro _ w1 ⟨rfl,hp,hc,_⟩;rw [HI.out];go_wp2_with fail;refine bodyPost_end (results_none rfl _ _ _) rfl ?_;rw [must,HI.out];refine⟨hc,_,rfl,rfl,?_⟩;rw [skip,HI.out] at hp;exact hp
end Go.Proofs.YtechofppmnnomaaGreatDoor
namespace Go.Mq.Tree
open Go Go.RowKit Go.Mq
def rq (ks:List (List UInt8)) (n:Nat):List MapEntry:=match ks with
 | []=>[]
 | k :: r=>{ key:=str k,val:=.int .i64 1,born:=n } :: rq r (n + 1)
theorem agz (ks:List (List UInt8)) (k:List UInt8) : ∀ n,rq (ks ++ [k]) n=rq ks n ++ [{ key:=str k,val:=.int .i64 1,born:=n + ks.length }]:=by
 induction ks with
 | nil=>intro n;simp [rq]
 | cons x r ih=>intro n;simp [rq,ih];omega
def mw (w:World) (m i:Nat):World:={ w with heap:=w.heap.setIfInBounds m (.map (rq (jR.take i) 0).toArray (min i jR.length)) }
theorem JD (a b:List UInt8) : (bs a == bs b)=(a == b):=by
 rw [Bool.eq_iff_iff,MapKept.bytes_beq,beq_iff_eq]
 constructor
 ·intro h;simpa using congrArg (fun x:ByteArray=>x.data.toList) h
 ·rintro rfl;rfl
theorem VA (k:List UInt8) (ks:List (List UInt8)) : ∀ n i,∃ j,Instr.findNow .string (str k) (rq ks n) i=some (if ks.contains k then some (j,.int .i64 1) else none):=by
 induction ks with
 | nil=>intro n i;exact⟨0,rfl⟩
 | cons x r ih=>
  intro n i;simp only [rq,Instr.findNow,Instr.sameNow,str,List.contains_cons];have e:=JD k x;cases h : k == x with
  | true=>rw [h] at e;exact⟨i,by simp [e]⟩
  | false=>
   rw [h] at e;obtain⟨j,hj⟩:=ih (n + 1) (i + 1);refine⟨j,?_⟩;simp only [e,Bool.false_or];exact hj
section
variable {P:Program} {T K E:TypeId}
theorem VB {w:World} {r:Nat} {es:Array MapEntry} {clock:Nat} (hb : w.heap[r]?=some (.map es clock)) : (getObj r).run P w = .ok (.map es clock) w:=by simp [getObj,Sem.run,hb]
theorem agA {w:World} {r:Nat} {es:Array MapEntry} {clock:Nat} (o:Obj) (hb : w.heap[r]?=some (.map es clock)) : (setObj r o).run P w = .ok () { w with heap:=w.heap.setIfInBounds r o }:=by simp [setObj,Sem.run,hb]
theorem VC {w:World} (hK:P.underlying K=some .string) (e:Bool) (b:ByteArray) : (Instr.checkKey e 10000 K (.string b)).run P w = .ok () w:=by
 rw [show (10000:Nat)=9999 + 1 from rfl,Instr.checkKey];simp [run_underlying hK]
theorem VD (w:World) (m i:Nat) (hm : m < w.heap.size) : (mw w m i).heap[m]?=some (.map (rq (jR.take i) 0).toArray (min i jR.length)):=by
 simp [mw,hm]
theorem kz (hT:P.underlying T=some (.map K E)) (hK:P.underlying K=some .string) (w:World) (m i:Nat) (k:List UInt8) (hm : m < w.heap.size) (hi : i < jR.length) (hk : jR[i]?=some k) (hn : (jR.take i).contains k=false) :
  (Instr.mapUpdate T (.map (some m)) (str k) (.int .i64 1)).run P (mw w m i) = .ok () (mw w m (i + 1)):=by
 have hb:=VD w m i hm;obtain⟨j,hj⟩:=VA k (jR.take i) 0 0;rw [hn] at hj;simp only [Bool.false_eq_true,if_false] at hj;simp only [Instr.mapUpdate,Sem.run_bind,run_underlying hT,Result.andThen_ok,VB hb,VC hK,Instr.findKey,run_underlying hK,hj,Sem.run_pure,agA _ hb]
 congr 1
 simp only [mw,World.mk.injEq,and_true,Array.setIfInBounds_setIfInBounds];have e2 : jR.take (i + 1)=jR.take i ++ [k]:=by rw [List.take_add_one,hk];rfl
 have e3 : (jR.take i).length=i:=by simp;omega
 have e4 : jR.length=21:=rfl;rw [e2,agz,e3,e4];rw [e4] at hi;rw [show min (i + 1) 21=min i 21 + 1 by omega,show min i 21=i by omega];simp
theorem agB (hT:P.underlying T=some (.map K E)) (hK:P.underlying K=some .string) (hE : ∀ w,(zeroValue E).run P w = .ok (.int .i64 0) w) (w:World) (m:Nat) (k:List UInt8) (hm : m < w.heap.size) :
  (Instr.lookup T (.map (some m)) (str k) false).run P (mw w m 21) = .ok (.int .i64 (if kept k then 1 else 0)) (mw w m 21):=by
 have hb:=VD w m 21 hm;obtain⟨j,hj⟩:=VA k (jR.take 21) 0 0;rw [show jR.take 21=jR from rfl] at hj hb
 unfold kept
 cases h : jR.contains k <;> rw [h] at hj <;> simp only [Bool.false_eq_true,if_false,if_true] at hj <;>
  simp [Instr.lookup,run_underlying hT,VB hb,VC hK,Instr.findKey,run_underlying hK,hj,hE]
end
theorem agC (w:World) : w.alloc (.map #[] 0)=mw (w.alloc (.map #[] 0)) w.heap.size 0:=by
 have e : (w.alloc (.map #[] 0)).heap=(w.alloc (.map #[] 0)).heap.setIfInBounds w.heap.size (.map (rq (jR.take 0) 0).toArray (min 0 jR.length)):=by
  apply Array.ext_getElem?
  intro i;rw [Array.getElem?_setIfInBounds];by_cases h : w.heap.size=i
  ·subst h
   rw [heap_alloc_new];simp [rq]
  ·simp [h]
 unfold mw
 rw [← e]
theorem agD (w:World) (i:Nat):ae [] w (mw (w.alloc (.map #[] 0)) w.heap.size i):=by
 refine⟨rfl,rfl,rfl,by simp [mw],fun k hk _=>?_⟩;have : ((w.alloc (.map #[] 0)).heap.setIfInBounds w.heap.size (.map (rq (jR.take i) 0).toArray (min i jR.length)))[k]?=w.heap[k]?:=by
  rw [Array.getElem?_setIfInBounds_ne (by omega)];exact Below.heap_alloc w _ k hk
 exact this
end Go.Mq.Tree
namespace Go.Proofs.YtechofppmnnomaaGreatDoor
open Go Go.RowKit Go.Mq Go.Mq.Tree
set_option maxRecDepth 100000
set_option maxHeartbeats 2000000
theorem agE (s:List UInt8) (w:World) :
  Calls Tryz.prog 109 #[str s] w (fun e w'=>e = .returned (.bool (kept s))∧ae [] w w'):=by
 have hmm : ∀ w,(Instr.makeMap 232 none).run Tryz.prog w = .ok (.map (some w.heap.size)) (mw (w.alloc (.map #[] 0)) w.heap.size 0):=fun w=>by rw [← agC];exact run_makeMap _ _
 have hm : w.heap.size < (w.alloc (.map #[] 0)).heap.size:=by simp
 have hz : ∀ w,(zeroValue 3).run Tryz.prog w = .ok (.int .i64 0) w:=Tryz.zeroValue3
 have h0:=kz (P:=Tryz.prog) Tryz.underlying232 Tryz.underlying9 (w.alloc (.map #[] 0)) w.heap.size 0 _ hm (by decide) rfl (by decide);have h1:=kz (P:=Tryz.prog) Tryz.underlying232 Tryz.underlying9 (w.alloc (.map #[] 0)) w.heap.size 1 _ hm (by decide) rfl (by decide);have h2:=kz (P:=Tryz.prog) Tryz.underlying232 Tryz.underlying9 (w.alloc (.map #[] 0)) w.heap.size 2 _ hm (by decide) rfl (by decide);have h3:=kz (P:=Tryz.prog) Tryz.underlying232 Tryz.underlying9 (w.alloc (.map #[] 0)) w.heap.size 3 _ hm (by decide) rfl (by decide);have h4:=kz (P:=Tryz.prog) Tryz.underlying232 Tryz.underlying9 (w.alloc (.map #[] 0)) w.heap.size 4 _ hm (by decide) rfl (by decide);have h5:=kz (P:=Tryz.prog) Tryz.underlying232 Tryz.underlying9 (w.alloc (.map #[] 0)) w.heap.size 5 _ hm (by decide) rfl (by decide);have h6:=kz (P:=Tryz.prog) Tryz.underlying232 Tryz.underlying9 (w.alloc (.map #[] 0)) w.heap.size 6 _ hm (by decide) rfl (by decide);have h7:=kz (P:=Tryz.prog) Tryz.underlying232 Tryz.underlying9 (w.alloc (.map #[] 0)) w.heap.size 7 _ hm (by decide) rfl (by decide);have h8:=kz (P:=Tryz.prog) Tryz.underlying232 Tryz.underlying9 (w.alloc (.map #[] 0)) w.heap.size 8 _ hm (by decide) rfl (by decide);have h9:=kz (P:=Tryz.prog) Tryz.underlying232 Tryz.underlying9 (w.alloc (.map #[] 0)) w.heap.size 9 _ hm (by decide) rfl (by decide);have h10:=kz (P:=Tryz.prog) Tryz.underlying232 Tryz.underlying9 (w.alloc (.map #[] 0)) w.heap.size 10 _ hm (by decide) rfl (by decide);have h11:=kz (P:=Tryz.prog) Tryz.underlying232 Tryz.underlying9 (w.alloc (.map #[] 0)) w.heap.size 11 _ hm (by decide) rfl (by decide);have h12:=kz (P:=Tryz.prog) Tryz.underlying232 Tryz.underlying9 (w.alloc (.map #[] 0)) w.heap.size 12 _ hm (by decide) rfl (by decide);have h13:=kz (P:=Tryz.prog) Tryz.underlying232 Tryz.underlying9 (w.alloc (.map #[] 0)) w.heap.size 13 _ hm (by decide) rfl (by decide);have h14:=kz (P:=Tryz.prog) Tryz.underlying232 Tryz.underlying9 (w.alloc (.map #[] 0)) w.heap.size 14 _ hm (by decide) rfl (by decide);have h15:=kz (P:=Tryz.prog) Tryz.underlying232 Tryz.underlying9 (w.alloc (.map #[] 0)) w.heap.size 15 _ hm (by decide) rfl (by decide);have h16:=kz (P:=Tryz.prog) Tryz.underlying232 Tryz.underlying9 (w.alloc (.map #[] 0)) w.heap.size 16 _ hm (by decide) rfl (by decide);have h17:=kz (P:=Tryz.prog) Tryz.underlying232 Tryz.underlying9 (w.alloc (.map #[] 0)) w.heap.size 17 _ hm (by decide) rfl (by decide);have h18:=kz (P:=Tryz.prog) Tryz.underlying232 Tryz.underlying9 (w.alloc (.map #[] 0)) w.heap.size 18 _ hm (by decide) rfl (by decide);have h19:=kz (P:=Tryz.prog) Tryz.underlying232 Tryz.underlying9 (w.alloc (.map #[] 0)) w.heap.size 19 _ hm (by decide) rfl (by decide);have h20:=kz (P:=Tryz.prog) Tryz.underlying232 Tryz.underlying9 (w.alloc (.map #[] 0)) w.heap.size 20 _ hm (by decide) rfl (by decide);have hl:=agB (P:=Tryz.prog) Tryz.underlying232 Tryz.underlying9 hz (w.alloc (.map #[] 0)) w.heap.size s hm;have HC:=zh (agD w 21);clear hz
 go_enter Tryz.func109,Tryz.ntmps109
 go_wp2_with fail
 all_goals
  go_ret
  exact⟨rfl,HC.out⟩
end Go.Proofs.YtechofppmnnomaaGreatDoor
namespace Go.Mq.Tree
open Go Go.RowKit Go.Mq
theorem eP.eO {α β:Type} {w w1 w2:World} {B bp bt z en p:Nat} {V:World→α→Value→Prop} {V':World→β→Value→Prop} {e:Ending} (hc:ae [bp] w w1) (h:eP w1 B bp bt z (.bad en p:R α) V e w2):eP w B bp bt z (.bad en p:R β) V' e w2:=by
 obtain⟨hc2,b,he,hb,hB⟩:=h;exact⟨hc.then hc2,b,he,Nat.le_trans hc.size hb,hB⟩
theorem eP.thrown {α:Type} {w w2:World} {B bp bt z en p:Nat} {V:World→α→Value→Prop} {e:Ending} (h:eP w B bp bt z (.bad en p:R α) V e w2) : ∃ b,e = .panicked [{ v:=.iface 81 (.agg #[.iface 140 (ptr b)]),recovered:=false }]:=by
 obtain⟨_,b,he,_⟩:=h;exact⟨b,he⟩
theorem eP.part {α:Type} {w w2:World} {B bp bt z:Nat} {o:R α} {V:World→α→Value→Prop} {e:Ending} (h:eP w B bp bt z o V e w2) :
  (∃ en q b,e = .panicked [{ v:=.iface 81 (.agg #[.iface 140 (ptr b)]),recovered:=false }]∧Hid (o = .bad en q)∧Hid (eP w B bp bt z (.bad en q:R α) V (.panicked [{ v:=.iface 81 (.agg #[.iface 140 (ptr b)]),recovered:=false }]) w2)) ∨
  ∃ a r,Hid (o = .ok a r)∧eP w B bp bt z (.ok a r) V e w2:=by
 cases o with
 | bad en q=>obtain⟨b,rfl⟩:=h.thrown;exact .inl ⟨en,q,b,rfl,zh rfl,zh h⟩
 | ok a r=>exact .inr ⟨a,r,zh rfl,h⟩
theorem eP.cut {α:Type} {w w2:World} {B bp bt z:Nat} {o:R α} {V:World→α→Value→Prop} {e:Ending} (h:eP w B bp bt z o V e w2) :
  (∃ en q b,e = .panicked [{ v:=.iface 81 (.agg #[.iface 140 (ptr b)]),recovered:=false }]∧Hid (o = .bad en q)∧Hid (∀ {β:Type} (o':R β) V' w0,ae [bp] w0 w→o' = .bad en q→eP w0 B bp bt z o' V' (.panicked [{ v:=.iface 81 (.agg #[.iface 140 (ptr b)]),recovered:=false }]) w2)) ∨
  ∃ a r v,e = .returned v∧Hid (o = .ok a r)∧V w2 a v∧ae [bp] w w2∧bQ w2 B bp bt z r:=by
 cases o with
 | bad en q=>
  obtain⟨hc,b,he,hb,hB⟩:=h;exact .inl ⟨en,q,b,he,zh rfl,zh fun o' V' w0 h0 e=>e ▸ ⟨h0.then hc,b,rfl,Nat.le_trans h0.size hb,hB⟩⟩
 | ok a r=>
  obtain⟨hc,v,he,hv,hp⟩:=h;exact .inr ⟨a,r,v,he,zh rfl,hv,hc,hp⟩
end Go.Mq.Tree
namespace Go.Proofs.YtechofppmnnomaaGreatDoor
open Go Go.RowKit Go.Mq Go.Mq.Tree
set_option maxRecDepth 100000
set_option maxHeartbeats 2000000
theorem Nv {w w1:World} {k t p:Value} {ty:TypeId} (hc:ae [] (w.alloc (.cells #[k,t,p] ty)) w1) : w1.cell? ⟨w.heap.size,0,none⟩=some k∧w1.cell? ⟨w.heap.size,1,none⟩=some t∧w1.cell? ⟨w.heap.size,2,none⟩=some p∧ae [] w w1:=by
 have hb:=ag.new w #[k,t,p] ty;exact⟨hc.aH (hb.cell 0 _ rfl) (by simp),hc.aH (hb.cell 1 _ rfl) (by simp),hc.aH (hb.cell 2 _ rfl) (by simp),((ae.refl [] w).alloc _).then hc⟩
theorem BU (w:World) (B bp bt z:Nat) (ts:List Tok) (h:bQ w B bp bt z ts) :
  Calls Tryz.prog 70 #[ptr bp] w (eP w B bp bt z (name z ts) (fun _ n v=>v=str n)):=by
 have H:=zh h;cases ts with
 | nil=>
  obtain⟨off,c,c0,c1,c2,hl⟩:=yB h;have c1' : w.cell? ⟨bt,off + 1,none⟩=some (str []):=by
   obtain⟨off',c',hb',hl',hc'⟩:=h.at_;have e:=(hb'.cell 0 _ rfl).symm.trans c0;simp at e
   rw [← e.1];exact hc' 1 _ rfl
  clear h
  go_enter Tryz.func70,Tryz.ntmps70
  go_wp2_with fail;have hc:=(ae.refl [bp] w).alloc (.cells #[.int .i64 4,str [],.int .i64 z] 91);refine(lF 3 _ B bp bt z [] (H.out.kept ((ae.refl [] w).alloc _) (by simp) (by simp) (by simp))).mono ?_;intro e w2 he;have HE:=zh he;obtain⟨b,rfl⟩:=he.thrown;have HC:=zh hc;clear hc he;go_wp2_with fail;exact⟨rfl,HE.out.eO HC.out⟩
 | cons t r=>
  obtain⟨off,c,hb,c0,c1,c2,c3,hl,hcs⟩:=uJ h;have hf:=hb.frozen 0;have HT:=zh (IX h hb hl hcs);have hP:=h.kept ((ae.refl [] w).alloc (.cells #[.int .i64 t.kind.num,str t.text,.int .i64 t.pos] 91)) (by simp) (by simp) (by simp);have HP:=zh hP;have hne:=h.ne;have hbp : bp < w.heap.size:=hb.lt;have HB:=zh (And.intro hb hl);have HK:=zh (agE t.text);have HS:=zh hcs;clear hb hl hcs hP;cases hkd : decide (t.kind = .word) with
  | false=>
   have hk : ((t.kind.num:Int) != 1)=true:=by cases hq : t.kind <;> simp_all [Kind.num]
   have HR:=zh (show name z (t :: r) = .bad 3 t.pos by rw [name,if_pos (.inl (of_decide_eq_false hkd))]);clear h hkd
   go_enter Tryz.func70,Tryz.ntmps70
   go_wp2_with fail;refine(lF 3 _ B bp bt z (t :: r) HP.out).mono ?_;intro e w2 he;have HE:=zh he;obtain⟨b,rfl⟩:=he.thrown;clear he;go_wp2_with fail;refine⟨rfl,?_⟩;rw [HR.out];exact HE.out.eO ((ae.refl _ _).alloc _)
  | true=>
   have hk : ((t.kind.num:Int) != 1)=false:=by cases hq : t.kind <;> simp_all [Kind.num]
   have HW:=zh (of_decide_eq_true hkd);clear h hkd;cases hkp : kept t.text with
   | true=>
    have HR:=zh (show name z (t :: r) = .bad 3 t.pos by rw [name,if_pos (.inr hkp)]);have E5:=zh hkp;clear hkp
    go_enter Tryz.func70,Tryz.ntmps70
    go_wp2_with fail;refine(HK.out _).mono ?_;rintro _ w1 ⟨rfl,hc⟩;rw [E5.out];have HC:=zh hc;clear hc;go_wp2_with fail;refine(lF 3 _ B bp bt z (t :: r) (HP.out.kept HC.out (by simp) (by simp) (by simp))).mono ?_;intro e w2 he;have HE:=zh he;obtain⟨b,rfl⟩:=he.thrown;clear he;go_wp2_with fail;refine⟨rfl,?_⟩;rw [HR.out];exact HE.out.eO (((ae.refl [bp] w).alloc _).then HC.out.weak)
   | false=>
    cases hln : decide (10 < t.text.length) with
    | true=>
     have agF : decide ((10:Int) < (t.text.length:Int))=true:=by have:=of_decide_eq_true hln;exact decide_eq_true (by omega)
     have HR:=zh (show name z (t :: r) = .bad 4 t.pos by rw [name,if_neg (by simp [HW.out,hkp]),if_pos (of_decide_eq_true hln)]);have E5:=zh hkp;clear hkp hln
     go_enter Tryz.func70,Tryz.ntmps70
     go_wp2_with fail;refine(HK.out _).mono ?_;rintro _ w1 ⟨rfl,hc⟩;rw [E5.out];have HC:=zh hc;obtain⟨d0,d1,d2,hc0⟩:=Nv hc;clear hc;have aF:=zh hc0;clear hc0;go_wp2_with fail;refine(lF 4 _ B bp bt z (t :: r) (HP.out.kept HC.out (by simp) (by simp) (by simp))).mono ?_;intro e w2 he;have HE:=zh he;obtain⟨b,rfl⟩:=he.thrown;clear he;go_wp2_with fail;refine⟨rfl,?_⟩;rw [HR.out];exact HE.out.eO (((ae.refl [bp] w).alloc _).then HC.out.weak)
    | false=>
     have agF : decide ((10:Int) < (t.text.length:Int))=false:=by have:=of_decide_eq_false hln;exact decide_eq_false (by omega)
     have HR:=zh (show name z (t :: r) = .ok t.text r by rw [name,if_neg (by simp [HW.out,hkp]),if_neg (of_decide_eq_false hln)]);have E5:=zh hkp;have hnb : w.heap.size≠bp:=by omega
     have hl:=HB.out.2;clear hkp hln
     go_enter Tryz.func70,Tryz.ntmps70
     go_wp2_with fail;refine(HK.out _).mono ?_;rintro _ w1 ⟨rfl,hc⟩;rw [E5.out];obtain⟨d0,d1,d2,hc0⟩:=Nv hc;clear hc;have hb1:=HB.out.1.kept hc0 (by simp);have e0:=hb1.cell 0 _ rfl;have ef:=hb1.frozen 0;have hp1:=H.out.kept hc0 (by simp) (by simp) (by simp);have HT1:=zh (IX hp1 hb1 HB.out.2 (fun i v hi=>hc0.aH (HS.out i v hi) (by simp)));have aF:=zh hc0;clear hc0 hp1 hb1;go_wp2_with fail;go_ret
     rw [HR.out];exact⟨aF.out.weak.then HT1.out.2,_,rfl,rfl,HT1.out.1⟩
end Go.Proofs.YtechofppmnnomaaGreatDoor
