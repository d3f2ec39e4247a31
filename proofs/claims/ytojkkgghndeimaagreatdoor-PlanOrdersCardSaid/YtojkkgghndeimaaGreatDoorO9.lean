/- Some texts in one. -/
import Derived.Shelf.Strings.Prefix
import Derived.Defers
import Derived.Recover
import Derived.Test.YtojkkgghndeimaaGreatDoorO1
import Derived.Test.YtojkkgghndeimaaGreatDoorO6
import Derived.Test.YtojkkgghndeimaaGreatDoorO7
import Derived.Test.YtojkkgghndeimaaGreatDoorO8
namespace Go.Proofs.YtojkkgghndeimaaGreatDoor
open Go Go.RowKit Go.Mq Go.Mq.Tree
set_option maxRecDepth 100000
set_option maxHeartbeats 2000000
end Go.Proofs.YtojkkgghndeimaaGreatDoor
namespace Go.Mq.Tree
open Go Go.RowKit Go.Mq
theorem name_len {z:Nat} {ts r:List Tok} {n:List UInt8} (h : name z ts = .ok n r) : r.length + 1=ts.length:=by
 cases ts with
 | nil=>cases h
 | cons t l=>
  rw [name] at h
  split at h
  ·cases h
  ·split at h
   ·cases h
   ·cases h; rfl
theorem see_tail {s:List UInt8} {ts:List Tok} (h : see s ts=true) : ts.tail.length + 1=ts.length:=by
 cases ts with
 | nil=>cases h
 | cons t r=>rfl
theorem Par.bt_lt {w:World} {B bp bt z:Nat} {ts:List Tok} (h:Par w B bp bt z ts) : bt < w.heap.size:=by
 obtain ⟨off,c,_,_,hc⟩:=h.at_
 cases ts with
 | nil=>exact lt_of_cell (hc 0 _ rfl)
 | cons t r=>exact lt_of_cell (hc 0 _ rfl)
def lenOf:Value→Nat
 | .slice _ n _=>n
 | _=>0
theorem lenOf_owns {w:World} {e:TypeId} {size n:Nat} {v:Value} {xs:List Value} (h : w.ownsRow 0 e size v n xs) : lenOf v=n:=by
 rcases h.2 with ⟨rfl,rfl⟩ | ⟨g,cap,cur,rfl,_⟩ <;> rfl
theorem slice_of_owns {w:World} {e:TypeId} {size n:Nat} {v:Value} {xs:List Value} (h : w.ownsRow 0 e size v n xs) : ∃ a c,v = .slice a n c:=by
 rcases h.2 with ⟨rfl,rfl⟩ | ⟨g,cap,cur,rfl,_⟩
 ·exact ⟨_,_,rfl⟩
 ·exact ⟨_,_,rfl⟩
theorem new_owns {w w':World} {e:TypeId} {size n:Nat} {v:Value} {xs:List Value} (h : w'.ownsRow 0 e size v n xs) (hF:From w.heap.size v) : ∀ g∈blk v,New w w' g:=fun g hg=>⟨hF g hg,owns_lt h g hg⟩
end Go.Mq.Tree
namespace Go.Proofs.YtojkkgghndeimaaGreatDoor
open Go Go.RowKit Go.Mq Go.Mq.Tree
set_option maxRecDepth 100000
set_option maxHeartbeats 4000000
theorem infoStr : (Tryz.prog.info? 9).map (fun i=>(i.zero,i.size,i.bytes))=some (some (.string ⟨#[]⟩),1,16):=by kernel_rfl
end Go.Proofs.YtojkkgghndeimaaGreatDoor
namespace Go.Mq.Tree
open Go Go.RowKit Go.Mq
def wordy (c:UInt8):Bool:=letter c || digit c
def kindT:List UInt8→Kind
 | []=>.mark
 | c :: _=>if letter c then .word else if digit c then .number else .mark
def IsWord (t:List UInt8):Prop:=∃ c r,t=c :: r∧letter c=true ∧ ∀ x∈r,wordy x=true
def IsNum (t:List UInt8):Prop:=∃ c r,t=c :: r∧digit c=true ∧ ∀ x∈r,digit x=true
def IsTok (t:List UInt8):Prop:=IsWord t∨IsNum t∨t∈marks
def Ends (t:List UInt8):List UInt8→Prop
 | []=>True
 | b :: _=>(kindT t ≠ .mark→wordy b=false)∧(b.toNat=61→t≠[58]∧t≠[60]∧t≠[62])
inductive Toks:List UInt8→List (List UInt8)→Prop
 | nil:Toks [] []
 | gap {c u K} : gap c=true→Toks u K→Toks (c :: u) K
 | tok {t u K} : IsTok t→Ends t u→Toks u K→Toks (t ++ u) (t :: K)
inductive Spread:List UInt8→List UInt8→Prop
 | nil:Spread [] []
 | byte {c u v} : gap c=false→Spread u v→Spread (c :: u) (c :: v)
 | gap {c g u v} : gap c=true→g≠[]→(∀ x∈g,gap x=true)→Spread u v→Spread (c :: u) (g ++ v)
theorem Spread.refl : ∀ u,Spread u u
 | []=>.nil
 | c :: u=>by
  cases h:Tree.gap c with
  | false=>exact .byte h (Spread.refl u)
  | true=>exact Spread.gap (g:=[c]) h (by simp) (by simpa using h) (Spread.refl u)
theorem letter_val {c:UInt8} (h : letter c=true) : 97≤c.toNat∧c.toNat≤122:=by simpa [letter] using h
theorem digit_val {c:UInt8} (h : digit c=true) : 48≤c.toNat∧c.toNat≤57:=by simpa [digit] using h
theorem tok_ne {t:List UInt8} (h:IsTok t) : t≠[]:=by
 rcases h with ⟨c,r,rfl,_,_⟩ | ⟨c,r,rfl,_,_⟩ | h
 ·simp
 ·simp
 ·revert h; revert t; decide
theorem letter_not_digit {c:UInt8} (h : digit c=true) : letter c=false:=by
 cases hl : letter c with
 | false=>rfl
 | true=>have:=letter_val hl; have:=digit_val h; omega
theorem kind_word {t:List UInt8} (h:IsWord t) : kindT t = .word:=by
 obtain ⟨c,r,rfl,hc,_⟩:=h; simp [kindT,hc]
theorem kind_num {t:List UInt8} (h:IsNum t) : kindT t = .number:=by
 obtain ⟨c,r,rfl,hc,_⟩:=h; simp [kindT,hc,letter_not_digit hc]
theorem kind_mark : ∀ t∈marks,kindT t = .mark:=by decide
theorem howN_take {f:UInt8→Bool} : ∀ (l:List UInt8),(∀ x∈l.take (howN f l),f x=true)∧howN f l≤l.length
 | []=>by simp [howN]
 | c :: t=>by
  have h:=howN_take (f:=f) t
  cases hc : f c with
  | false=>simp [howN,hc]
  | true=>
   simp only [howN,hc,if_true,List.take_succ_cons,List.length_cons]
   exact ⟨fun x hx=>(List.mem_cons.mp hx).elim (fun e=>e ▸ hc) (h.1 x),by omega⟩
theorem next_istok {l:List UInt8} (h : (nextK l).2≠0):IsTok (l.take (nextK l).2)∧kindT (l.take (nextK l).2)=(nextK l).1∧(nextK l).2≤l.length:=by
 cases l with
 | nil=>simp [nextK] at h
 | cons c t=>
  rw [nextK] at h ⊢
  by_cases hl : letter c=true
  ·rw [if_pos hl] at h ⊢
   have hh:=howN_take (f:=fun c=>letter c || digit c) (c :: t)
   have he : howN (fun c=>letter c || digit c) (c :: t)=howN (fun c=>letter c || digit c) t + 1:=by simp [howN,hl]
   simp only [he,List.take_succ_cons] at hh ⊢
   have hw:IsWord (c :: t.take (howN (fun c=>letter c || digit c) t)):=⟨c,_,rfl,hl,fun x hx=>by simpa [wordy] using hh.1 x (by simp [hx])⟩
   exact ⟨.inl hw,kind_word hw,hh.2⟩
  ·rw [if_neg hl] at h ⊢
   by_cases hd : digit c=true
   ·rw [if_pos hd] at h ⊢
    have hh:=howN_take (f:=digit) (c :: t)
    have he : howN digit (c :: t)=howN digit t + 1:=by simp [howN,hd]
    simp only [he,List.take_succ_cons] at hh ⊢
    have hw:IsNum (c :: t.take (howN digit t)):=⟨c,_,rfl,hd,fun x hx=>hh.1 x (by simp [hx])⟩
    exact ⟨.inr (.inl hw),kind_num hw,hh.2⟩
   ·rw [if_neg hd] at h ⊢
    cases hf : marks.find? fun m=>m.isPrefixOf (c :: t) with
    | none=>simp [hf] at h
    | some m=>
     have h1:=List.mem_of_find?_eq_some hf
     have h2:=List.find?_some hf
     obtain ⟨v,hv⟩:=List.isPrefixOf_iff_prefix.mp h2
     simp only [Option.map_some,Option.getD_some]
     rw [← hv]
     simp only [List.take_left,List.length_append]
     exact ⟨.inr (.inr h1),kind_mark m h1,by omega⟩
def bytes (ts:List Tok):Nat:=(ts.map fun t=>t.text.length).sum
def Good (ts:List Tok):Prop:=∀ t∈ts,IsTok t.text∧t.kind=kindT t.text
theorem lexL_good : ∀ (f i k:Nat) (l:List UInt8) (ts:List Tok),lexL f i k l = .ok ts→Good ts∧bytes ts≤l.length
 | 0,_,_,l,ts,h=>by cases h; exact ⟨fun _ h=>by simp at h,by simp [bytes]⟩
 | f + 1,i,k,[],ts,h=>by cases h; exact ⟨fun _ h=>by simp at h,by simp [bytes]⟩
 | f + 1,i,k,c :: t,ts,h=>by
  rw [lexL] at h
  split at h
  ·have:=lexL_good f _ _ _ _ h
   exact ⟨this.1,by simp only [List.length_cons]; omega⟩
  ·split at h
   ·cases h
   ·rename_i hn
    split at h
    ·cases h
    ·split at h
     ·rename_i ts' hts
      cases h
      have h1:=lexL_good f _ _ _ _ hts
      have h2:=next_istok hn
      refine ⟨?_,?_⟩
      ·intro x hx
       rcases List.mem_cons.mp hx with rfl | hx
       ·exact ⟨h2.1,h2.2.1.symm⟩
       ·exact h1.1 x hx
      ·have h3:=h1.2
       have h4 : ((c :: t).take (nextK (c :: t)).2).length=(nextK (c :: t)).2:=by rw [List.length_take]; exact Nat.min_eq_left h2.2.2
       rw [List.length_drop] at h3
       simp only [bytes,List.map_cons,List.sum_cons,h4] at h3 ⊢
       have:=h2.2.2
       omega
     ·cases h
end Go.Mq.Tree
namespace Go.Mq.Tree
open Go Go.RowKit Go.Mq
def Nm (n:List UInt8):Prop:=IsWord n∧kept n=false∧n.length≤10
def Qm (m:List UInt8):Prop:=m=[]∨Nm m
def E.isX:E→Prop
 | .nil=>False
 | .cons _ _=>False
 | _=>True
def E.isL:E→Prop
 | .nil=>True
 | .cons _ _=>True
 | _=>False
def WF:E→Prop
 | .num _ n=>0≤n∧n≤9223372036854775807
 | .var _ m n=>Qm m∧Nm n
 | .item _ m n i=>Qm m∧Nm n∧WF i∧i.isX
 | .un _ op x=>(op=[45]∨op=[110,111,116])∧WF x∧x.isX
 | .bin _ op x y=>(∃ k,k < 5∧op∈levels.getD (4 - k) [])∧(WF x∧x.isX)∧WF y∧y.isX
 | .app _ m n l=>Qm m∧Nm n∧WF l∧l.isL
 | .nil=>True
 | .cons x r=>(WF x∧x.isX)∧WF r∧r.isL
def needW (lv:Nat) (x:E) (k:Nat):Nat:=if lv≤lvl x then k else k + 1
def need:E→Nat
 | .num _ _=>1
 | .var _ _ _=>1
 | .item _ _ _ i=>need i + 1
 | .un _ _ x=>needW 5 x (need x) + 1
 | .bin _ op x y=>max (needW (opLevel op) x (need x)) (needW (opLevel op + 1) y (need y))
 | .app _ _ _ l=>need l + 1
 | .nil=>0
 | .cons x r=>max (need x) (need r)
def withinK (lv:Nat) (x:E) (K:List (List UInt8)):List (List UInt8):=if lv≤lvl x then K else [40] :: (K ++ [[41]])
def qualK (m n:List UInt8):List (List UInt8):=if m=[] then [n] else [m,[46],n]
def toks:E→List (List UInt8)
 | .num _ n=>[Lib.itoa n]
 | .var _ m n=>qualK m n
 | .item _ m n i=>qualK m n ++ [91] :: (toks i ++ [[93]])
 | .un _ op x=>op :: withinK 5 x (toks x)
 | .bin _ op x y=>withinK (opLevel op) x (toks x) ++ op :: withinK (opLevel op + 1) y (toks y)
 | .app _ m n l=>qualK m n ++ [40] :: (toks l ++ [[41]])
 | .nil=>[]
 | .cons x .nil=>toks x
 | .cons x r=>toks x ++ [44] :: toks r
def E.cost:E→Nat
 | .cons x r=>(toks x).length + 1 + r.cost
 | _=>0
def Sp {α:Type} (p:Ps α) (Q : α→Prop) (c : α→Nat):Prop:=∀ ts a r,Good ts→p ts = .ok a r→Q a∧c a + bytes r≤bytes ts∧Good r
theorem bytes_cons (t:Tok) (r:List Tok) : bytes (t :: r)=t.text.length + bytes r:=by simp [bytes]
theorem good_cons {t:Tok} {r:List Tok} (h:Good (t :: r)) : (IsTok t.text∧t.kind=kindT t.text)∧Good r:=⟨h t (by simp),fun x hx=>h x (by simp [hx])⟩
theorem len_pos {t:List UInt8} (h:IsTok t) : 1≤t.length:=by
 cases t with
 | nil=>exact absurd rfl (tok_ne h)
 | cons _ _=>simp
theorem see_cost {s:List UInt8} {ts:List Tok} (hg:Good ts) (h : see s ts=true) : s.length + bytes ts.tail=bytes ts∧Good ts.tail:=by
 cases ts with
 | nil=>simp [see] at h
 | cons t r=>
  have : t.text=s:=by simpa [see] using h
  exact ⟨by rw [bytes_cons,this]; rfl,(good_cons hg).2⟩
theorem must_sp {z:Nat} {s:List UInt8} {ts:List Tok} {u:Unit} {r:List Tok} (hg:Good ts) (h : must z s ts = .ok u r) : s.length + bytes r=bytes ts∧Good r:=by
 rw [must] at h
 split at h
 ·rename_i hs; cases h; exact see_cost hg hs
 ·cases h
theorem name_sp {z:Nat} : Sp (name z) Nm (fun _=>1):=by
 intro ts n r hg h
 cases ts with
 | nil=>cases h
 | cons t ts=>
  rw [name] at h
  split at h
  ·cases h
  ·rename_i h1
   split at h
   ·cases h
   ·rename_i h2
    cases h
    have hg:=good_cons hg
    have hk : kindT t.text = .word:=by rw [← hg.1.2]; exact Classical.not_not.mp fun h=>h1 (.inl h)
    refine ⟨⟨?_,by simpa using fun h=>h1 (.inr h),by omega⟩,by show 1 + _≤_; rw [bytes_cons]; have:=len_pos hg.1.1; omega,hg.2⟩
    rcases hg.1.1 with h | h | h
    ·exact h
    ·rw [kind_num h] at hk; cases hk
    ·rw [kind_mark _ h] at hk; cases hk
theorem number_sp {z:Nat} {most:Int} : Sp (number z most) (fun n=>0≤n∧n≤most) (fun _=>1):=by
 intro ts n r hg h
 cases ts with
 | nil=>cases h
 | cons t ts=>
  rw [number] at h
  split at h
  ·cases h
  ·rename_i h1
   have hg:=good_cons hg
   have hk : kindT t.text = .number:=by rw [← hg.1.2]; exact Classical.not_not.mp h1
   have hn:IsNum t.text:=by
    rcases hg.1.1 with h | h | h
    ·rw [kind_word h] at hk; cases hk
    ·exact h
    ·rw [kind_mark _ h] at hk; cases hk
   split at h
   ·rename_i n' hp
    split at h
    ·cases h
    ·rename_i h2
     cases h
     refine ⟨⟨?_,by omega⟩,by show 1 + _≤_; rw [bytes_cons]; have:=len_pos hg.1.1; omega,hg.2⟩
     obtain ⟨c,r,hc,hd,_⟩:=hn
     rw [hc] at hp
     have hd:=digit_val hd
     have e : (c.toNat=45)=False:=by simp; omega
     unfold Lib.parseIntB at hp
     simp only [e,not_false_eq_true,true_and,false_and,if_false] at hp
     split at hp
     ·cases hp
     ·cases hp
     ·split at hp
      ·cases hp
      ·injection hp with hp; omega
   ·cases h
theorem namesL_sp {z most:Nat} : ∀ (f:Nat) (l:List (List UInt8)) (ts:List Tok) (l':List (List UInt8)) (r:List Tok),Good ts→(∀ n∈l,Nm n)→l.length≤most→namesL z most f l ts = .ok l' r →
  (∀ n∈l',Nm n)∧l'.length≤most∧l.length < l'.length∧2 * l'.length + bytes r≤2 * l.length + bytes ts + 1∧Good r
 | 0,_,_,_,_,_,_,_,h=>by cases h
 | f + 1,l,ts,l',r,hg,hl,hm,h=>by
  rw [namesL] at h
  split at h
  ·cases h
  ·cases hn : name z ts with
   | bad e p=>simp only [hn] at h; cases h
   | ok n r1=>
    obtain ⟨h1,h2,h3⟩:=name_sp _ _ _ hg hn
    replace h2 : 1 + bytes r1≤bytes ts:=h2
    have hl2 : ∀ x∈l ++ [n],Nm x:=by
     intro x hx
     rcases List.mem_append.mp hx with hx | hx
     ·exact hl x hx
     ·simp at hx; subst hx; exact h1
    simp only [hn] at h
    split at h
    ·rename_i hs
     have hc:=see_cost h3 hs
     have hr:=namesL_sp f _ _ _ _ hc.2 hl2 (by simp; omega) h
     simp only [List.length_append,List.length_cons,List.length_nil] at hr hc
     exact ⟨hr.1,hr.2.1,by omega,by omega,hr.2.2.2.2⟩
    ·cases h
     exact ⟨hl2,by simp; omega,by simp,by simp; omega,h3⟩
theorem names_sp {z most:Nat} {ts:List Tok} {l:List (List UInt8)} {r:List Tok} (hg:Good ts) (h : names z most ts = .ok l r) : (∀ n∈l,Nm n)∧l.length≤most∧l≠[]∧2 * l.length + bytes r≤bytes ts + 1∧Good r:=by
 have:=namesL_sp _ _ _ _ _ hg (by simp) (by simp) h
 simp only [List.length_nil] at this
 exact ⟨this.1,this.2.1,fun h=>by rw [h] at this; simp at this,by omega,this.2.2.2.2⟩
theorem qual_sp {z:Nat} : Sp (qual z) (fun q=>Qm q.1∧Nm q.2) (fun q=>(qualK q.1 q.2).length):=by
 intro ts q r hg h
 rw [qual] at h
 cases h1 : name z ts with
 | bad e p=>simp only [h1] at h; cases h
 | ok n r1=>
  obtain ⟨a1,a2,a3⟩:=name_sp _ _ _ hg h1
  replace a2 : 1 + bytes r1≤bytes ts:=a2
  simp only [h1] at h
  split at h
  ·rename_i hs
   have hc:=see_cost a3 hs
   cases h2 : name z r1.tail with
   | bad e p=>simp only [h2] at h; cases h
   | ok n2 r2=>
    obtain ⟨b1,b2,b3⟩:=name_sp _ _ _ hc.2 h2
    replace b2 : 1 + bytes r2≤bytes r1.tail:=b2
    simp only [h2] at h
    cases h
    refine ⟨⟨.inr a1,b1⟩,?_,b3⟩
    have : (qualK n n2).length≤3:=by rw [qualK]; split <;> simp
    simp only [List.length_cons,List.length_nil] at hc
    simp only
    omega
  ·cases h
   exact ⟨⟨.inl rfl,a1⟩,by simp [qualK]; omega,a3⟩
theorem op_level : ∀ k < 5,∀ op∈levels.getD (4 - k) [],opLevel op=4 - k:=by decide
theorem within_len (lv:Nat) (x:E) (K:List (List UInt8)) : (withinK lv x K).length≤K.length + 2:=by rw [withinK]; split <;> simp
theorem within_mono {a b:Nat} (h : a≤b) (x:E) (K:List (List UInt8)) : (withinK a x K).length≤(withinK b x K).length:=by
 rw [withinK,withinK]; split <;> split <;> simp <;> omega
theorem needW_mono {a b:Nat} (h : a≤b) (x:E) (k:Nat) : needW a x k≤needW b x k:=by
 rw [needW,needW]; split <;> split <;> omega
def Fits (d lv:Nat) (x:E):Prop:=(WF x∧x.isX)∧needW lv x (need x)≤d
def costW (lv:Nat) (x:E):Nat:=(withinK lv x (toks x)).length
theorem op_cost {lv:List (List UInt8)} {ts:List Tok} {m:List UInt8} (hg:Good ts) (h : opOf lv ts=some m) : m∈lv∧1 + bytes ts.tail≤bytes ts∧Good ts.tail:=by
 have h1:=List.mem_of_find?_eq_some h
 have h2:=List.find?_some h
 have h3:=see_cost hg h2
 refine ⟨h1,?_,h3.2⟩
 cases ts with
 | nil=>simp [see] at h2
 | cons t r=>rw [bytes_cons]; have:=len_pos (good_cons hg).1.1; simp; omega
theorem binL_sp {sub:Ps E} {k d:Nat} (p:Nat) (hk : k < 5) (hs:Sp sub (Fits d (5 - k)) (costW (5 - k))) : ∀ (f:Nat) (x:E) (ts:List Tok) (a:E) (r:List Tok),Good ts→Fits d (4 - k) x→binL sub (levels.getD (4 - k) []) p f x ts = .ok a r →
  Fits d (4 - k) a∧costW (4 - k) a + bytes r≤costW (4 - k) x + bytes ts∧Good r
 | 0,_,_,_,_,_,_,h=>by cases h
 | f + 1,x,ts,a,r,hg,hx,h=>by
  rw [binL] at h
  split at h
  ·cases h; exact ⟨hx,Nat.le_refl _,hg⟩
  ·rename_i m hm
   obtain ⟨o1,o2,o3⟩:=op_cost hg hm
   cases hy : sub ts.tail with
   | bad e q=>simp only [hy] at h; cases h
   | ok y r1=>
    obtain ⟨y1,y2,y3⟩:=hs _ _ _ o3 hy
    simp only [hy] at h
    have hlv:=op_level k hk m o1
    have e5 : 5 - k=4 - k + 1:=by omega
    rw [e5] at y1 y2
    have hb:Fits d (4 - k) (.bin p m x y):=by
     refine ⟨⟨⟨⟨k,hk,o1⟩,hx.1,y1.1⟩,trivial⟩,?_⟩
     have h1:=hx.2; have h2:=y1.2
     rw [needW,if_pos (by rw [lvl,hlv]; exact Nat.le_refl _),need,hlv]
     omega
    obtain ⟨b1,b2,b3⟩:=binL_sp p hk hs f _ _ _ _ y3 hb h
    have hc : costW (4 - k) (.bin p m x y)=costW (4 - k) x + 1 + costW (4 - k + 1) y:=by
     rw [costW,withinK,if_pos (by rw [lvl,hlv]; exact Nat.le_refl _),toks,hlv,List.length_append,List.length_cons,costW,costW]; omega
    exact ⟨b1,by omega,b3⟩
theorem expr_sp {z d:Nat} {base:Ps E} (hb:Sp base (Fits d 5) (costW 5)) : ∀ (k:Nat),k≤5→Sp (expr z base k) (Fits d (5 - k)) (costW (5 - k))
 | 0,_=>hb
 | k + 1,hk=>by
  intro ts a r hg h
  have ih:=expr_sp (z:=z) hb k (by omega)
  rw [expr] at h
  cases hx : expr z base k ts with
  | bad e q=>simp only [hx] at h; cases h
  | ok x r1=>
   obtain ⟨x1,x2,x3⟩:=ih _ _ _ hg hx
   simp only [hx] at h
   have e4 : 5 - (k + 1)=4 - k:=by omega
   rw [e4]
   have hx':Fits d (4 - k) x:=⟨x1.1,Nat.le_trans (needW_mono (by omega) _ _) x1.2⟩
   obtain ⟨b1,b2,b3⟩:=binL_sp _ (by omega) ih _ _ _ _ _ x3 hx' h
   have : costW (4 - k) x≤costW (5 - k) x:=within_mono (by omega) _ _
   exact ⟨b1,by omega,b3⟩
theorem ofList_isL : ∀ l,(E.ofList l).isL
 | []=>trivial
 | _ :: _=>trivial
theorem toks_cost : ∀ (x:E) (l:List E),(toks (E.ofList (x :: l))).length + 1=(E.ofList (x :: l)).cost
 | x,[]=>by simp [E.ofList,toks,E.cost]
 | x,y :: r=>by
  have:=toks_cost y r
  simp only [E.ofList] at this ⊢
  rw [toks,E.cost]
  ·simp only [List.length_append,List.length_cons]; omega
  ·intro h; cases h
theorem cost_append : ∀ (l:List E) (x:E),(E.ofList (l ++ [x])).cost=(E.ofList l).cost + (toks x).length + 1
 | [],x=>by simp [E.ofList,E.cost]
 | y :: l,x=>by simp only [List.cons_append,E.ofList,E.cost,cost_append l x]; omega
theorem args_sp {z d:Nat} {ex:Ps E} (he:Sp ex (Fits d 0) (costW 0)) : ∀ (f:Nat) (first:Bool) (l:List E) (ts:List Tok) (l':List E) (r:List Tok),Good ts→(∀ x∈l,Fits d 0 x)→argsL z ex f first l ts = .ok l' r →
  (∀ x∈l',Fits d 0 x)∧((l'=l∧1 + bytes r=bytes ts)∨(l'≠[]∧(E.ofList l').cost + 1 + bytes r≤(E.ofList l).cost + bytes ts + (if first then 1 else 0)))∧Good r
 | 0,_,_,_,_,_,_,_,h=>by cases h
 | f + 1,first,l,ts,l',r,hg,hl,h=>by
  rw [argsL] at h
  split at h
  ·rename_i hs
   cases h
   have:=see_cost hg hs
   exact ⟨hl,.inl ⟨rfl,by simpa using this.1⟩,this.2⟩
  ·split at h
   ·cases h
   ·rename_i h2
    have h3 : (Good (if first then ts else ts.tail))∧bytes (if first then ts else ts.tail) + (if first then 0 else 1)=bytes ts:=by
     cases first with
     | true=>exact ⟨hg,rfl⟩
     | false=>
      have hs : see [44] ts=true:=by simpa using h2
      have:=see_cost hg hs
      exact ⟨this.2,by simp only [List.length_cons,List.length_nil] at this; simp; omega⟩
    cases hx : ex (if first then ts else ts.tail) with
    | bad e q=>simp only [hx] at h; cases h
    | ok x r1=>
     obtain ⟨x1,x2,x3⟩:=he _ _ _ h3.1 hx
     simp only [hx] at h
     have hl2 : ∀ y∈l ++ [x],Fits d 0 y:=by
      intro y hy
      rcases List.mem_append.mp hy with hy | hy
      ·exact hl y hy
      ·simp at hy; subst hy; exact x1
     obtain ⟨b1,b2,b3⟩:=args_sp he f false _ _ _ _ x3 hl2 h
     have : costW 0 x=(toks x).length:=by rw [costW,withinK,if_pos (Nat.zero_le _)]
     refine ⟨b1,.inr ?_,b3⟩
     have hca:=cost_append l x
     rcases b2 with ⟨rfl,b2⟩ | ⟨n2,b2⟩
     ·refine ⟨by simp,?_⟩
      rw [hca]
      cases first <;> simp at * <;> omega
     ·refine ⟨n2,?_⟩
      rw [hca] at b2
      cases first <;> simp at * <;> omega
theorem list_fits {d:Nat} : ∀ l:List E,(∀ x∈l,Fits d 0 x)→WF (E.ofList l)∧need (E.ofList l)≤d
 | [],_=>⟨trivial,Nat.zero_le _⟩
 | x :: l,h=>by
  have h1:=h x (by simp)
  have h2:=list_fits l fun y hy=>h y (by simp [hy])
  have h3:=h1.2
  rw [needW,if_pos (Nat.zero_le _)] at h3
  exact ⟨⟨h1.1,h2.1,ofList_isL l⟩,by rw [E.ofList,need]; omega⟩
theorem fits_top {d:Nat} {x:E} (h:WF x∧x.isX) (hl : lvl x=5) (hn : need x≤d):Fits d 5 x∧costW 5 x=(toks x).length:=by
 refine ⟨⟨h,?_⟩,?_⟩
 ·rw [needW,if_pos (by omega)]; exact hn
 ·rw [costW,withinK,if_pos (by omega)]
theorem fits0 {d:Nat} {x:E} (h:Fits d 0 x) : need x≤d∧costW 0 x=(toks x).length:=by
 have:=h.2
 rw [needW,if_pos (Nat.zero_le _)] at this
 exact ⟨this,by rw [costW,withinK,if_pos (Nat.zero_le _)]⟩
theorem named_sp {z d:Nat} {ex:Ps E} (he:Sp ex (Fits d 0) (costW 0)):Sp (named z ex) (Fits (d + 1) 5) (costW 5):=by
 intro ts a r hg h
 rw [named] at h
 cases hq : qual z ts with
 | bad e p=>simp only [hq] at h; cases h
 | ok q r1=>
  obtain ⟨q1,q2,q3⟩:=qual_sp _ _ _ hg hq
  replace q2 : (qualK q.1 q.2).length + bytes r1≤bytes ts:=q2
  simp only [hq] at h
  split at h
  ·rename_i hs
   have hc:=see_cost q3 hs
   cases hx : ex r1.tail with
   | bad e p=>simp only [hx] at h; cases h
   | ok i r2=>
    obtain ⟨x1,x2,x3⟩:=he _ _ _ hc.2 hx
    simp only [hx] at h
    cases hm : must z [93] r2 with
    | bad e p=>simp only [hm] at h; cases h
    | ok u r3=>
     have m1:=must_sp x3 hm
     simp only [hm] at h
     cases h
     have ⟨n1,c1⟩:=fits0 x1
     obtain ⟨f1,f2⟩:=fits_top (d:=d + 1) (x:=.item (hd z ts) q.1 q.2 i) ⟨⟨q1.1,q1.2,x1.1⟩,trivial⟩ rfl (by rw [need]; omega)
     refine ⟨f1,?_,m1.2⟩
     rw [f2,toks]
     simp only [List.length_append,List.length_cons,List.length_nil] at *
     omega
  ·split at h
   ·rename_i hs
    have hc:=see_cost q3 hs
    cases hx : argsL z ex (r1.length + 1) true [] r1.tail with
    | bad e p=>simp only [hx] at h; cases h
    | ok l r2=>
     obtain ⟨x1,x2,x3⟩:=args_sp he _ _ _ _ _ _ hc.2 (by simp) hx
     simp only [hx] at h
     cases h
     have ⟨n1,n2⟩:=list_fits l x1
     have n3 : (toks (E.ofList l)).length + 1 + bytes r≤bytes r1.tail:=by
      rcases x2 with ⟨rfl,x2⟩ | ⟨x2,x3⟩
      ·simp [E.ofList,toks]; omega
      ·cases l with
       | nil=>exact absurd rfl x2
       | cons y l=>have:=toks_cost y l; simp only [E.ofList,E.cost,if_true] at *; omega
     obtain ⟨f1,f2⟩:=fits_top (d:=d + 1) (x:=.app (hd z ts) q.1 q.2 (E.ofList l)) ⟨⟨q1.1,q1.2,n1,ofList_isL l⟩,trivial⟩ rfl (by rw [need]; omega)
     refine ⟨f1,?_,x3⟩
     rw [f2,toks]
     simp only [List.length_append,List.length_cons,List.length_nil] at *
     omega
   ·cases h
    obtain ⟨f1,f2⟩:=fits_top (d:=d + 1) (x:=.var (hd z ts) q.1 q.2) ⟨⟨q1.1,q1.2⟩,trivial⟩ rfl (by rw [need]; omega)
    exact ⟨f1,by rw [f2,toks]; exact q2,q3⟩
theorem one_sp (z:Nat) : ∀ d,Sp (one z d) (Fits d 5) (costW 5)
 | 0=>by intro ts a r _ h; cases h
 | d + 1=>by
  intro ts a r hg h
  have ih:=one_sp z d
  have hex:Sp (expr z (one z d) 5) (Fits d 0) (costW 0):=expr_sp ih 5 (Nat.le_refl _)
  have un : ∀ (s:List UInt8),(s=[45]∨s=[110,111,116])→see s ts=true→(match one z d ts.tail with | .bad e p=>R.bad e p | .ok x r=>.ok (.un (hd z ts) s x) r)=R.ok a r→Fits (d + 1) 5 a∧costW 5 a + bytes r≤bytes ts∧Good r:=by
   intro s hs h1 h
   have hc:=see_cost hg h1
   have hl : 1≤s.length:=by rcases hs with rfl | rfl <;> simp
   cases hx : one z d ts.tail with
   | bad e p=>simp only [hx] at h; cases h
   | ok x r1=>
    obtain ⟨x1,x2,x3⟩:=ih _ _ _ hc.2 hx
    simp only [hx] at h
    cases h
    obtain ⟨f1,f2⟩:=fits_top (d:=d + 1) (x:=.un (hd z ts) s x) ⟨⟨hs,x1.1⟩,trivial⟩ rfl (by rw [need]; have:=x1.2; omega)
    refine ⟨f1,?_,x3⟩
    rw [f2,toks,List.length_cons]
    rw [costW] at x2
    omega
  rw [one] at h
  dsimp only at h
  split at h
  ·rename_i h1; exact un _ (.inl rfl) h1 h
  ·split at h
   ·rename_i h1; exact un _ (.inr rfl) h1 h
   ·split at h
    ·rename_i h1
     have hc:=see_cost hg h1
     cases hx : expr z (one z d) 5 ts.tail with
     | bad e p=>simp only [hx] at h; cases h
     | ok x r1=>
      obtain ⟨x1,x2,x3⟩:=hex _ _ _ hc.2 hx
      simp only [hx] at h
      cases hm : must z [41] r1 with
      | bad e p=>simp only [hm] at h; cases h
      | ok u r2=>
       have m1:=must_sp x3 hm
       simp only [hm] at h
       cases h
       have ⟨n1,c1⟩:=fits0 x1
       refine ⟨⟨x1.1,?_⟩,?_,m1.2⟩
       ·rw [needW]; split <;> omega
       ·have:=within_len 5 a (toks a)
        rw [costW]
        simp only [List.length_cons,List.length_nil] at *
        omega
    ·cases ts with
     | nil=>exact named_sp hex _ _ _ hg h
     | cons t ts=>
      simp only at h
      split at h
      ·rename_i hk
       cases hn : number z 9223372036854775807 (t :: ts) with
       | bad e p=>simp only [hn] at h; cases h
       | ok n r1=>
        obtain ⟨a1,a2,a3⟩:=number_sp _ _ _ hg hn
        simp only [hn] at h
        cases h
        obtain ⟨f1,f2⟩:=fits_top (d:=d + 1) (x:=.num t.pos n) ⟨a1,trivial⟩ rfl (by rw [need]; omega)
        exact ⟨f1,by rw [f2,toks]; exact a2,a3⟩
      ·exact named_sp hex _ _ _ hg h
theorem ex0_sp (z:Nat):Sp (ex0 z) (Fits 11 0) (costW 0):=expr_sp (one_sp z 11) 5 (Nat.le_refl _)
end Go.Mq.Tree
namespace Go.Mq.Tree
open Go Go.RowKit Go.Mq
def WFS:Nat→S→Prop
 | _,.nil=>True
 | d,.set _ n i v r=>Nm n∧(∀ x,i=some x→Fits 10 0 x)∧Fits 11 0 v∧WFS d r
 | d,.ifs _ v t e r=>Fits 11 0 v∧((0 < d∧WFS (d - 1) t)∧0 < d∧WFS (d - 1) e)∧WFS d r
 | d,.whil _ v t r=>Fits 11 0 v∧(0 < d∧WFS (d - 1) t)∧WFS d r
 | d,.ret _ v r=>Fits 11 0 v∧WFS d r
 | d,.wri _ v r=>Fits 11 0 v∧WFS d r
 | d,.call _ v r=>(Fits 11 5 v ∧ ∃ p m n l,v = .app p m n l)∧WFS d r
abbrev BQ (d:Nat) (s:S):Prop:=0 < d∧WFS (d - 1) s
def indexK:Option E→List (List UInt8)
 | some x=>[91] :: (toks x ++ [[93]])
 | none=>[]
def stmtK:S→List (List UInt8)
 | .nil=>[]
 | .set _ n i v r=>n :: (indexK i ++ [58,61] :: (toks v ++ [59] :: stmtK r))
 | .ret _ v r=>[114,101,116,117,114,110] :: (toks v ++ [59] :: stmtK r)
 | .wri _ v r=>[119,114,105,116,101] :: (toks v ++ [59] :: stmtK r)
 | .call _ v r=>toks v ++ [59] :: stmtK r
 | .whil _ v t r=>[119,104,105,108,101] :: (toks v ++ [100,111] :: (stmtK t ++ [101,110,100] :: [59] :: stmtK r))
 | .ifs _ v t e r=>[105,102] :: (toks v ++ [116,104,101,110] :: (stmtK t ++ ((if e.isNil then [] else [101,108,115,101] :: stmtK e) ++ [101,110,100] :: [59] :: stmtK r)))
theorem WFS_app : ∀ (d:Nat) (l s:S),WFS d l→WFS d s→WFS d (l.app s)
 | _,.nil,_,_,h=>h
 | d,.set _ _ _ _ r,s,h,hs=>⟨h.1,h.2.1,h.2.2.1,WFS_app d r s h.2.2.2 hs⟩
 | d,.ifs _ _ _ _ r,s,h,hs=>⟨h.1,h.2.1,WFS_app d r s h.2.2 hs⟩
 | d,.whil _ _ _ r,s,h,hs=>⟨h.1,h.2.1,WFS_app d r s h.2.2 hs⟩
 | d,.ret _ _ r,s,h,hs=>⟨h.1,WFS_app d r s h.2 hs⟩
 | d,.wri _ _ r,s,h,hs=>⟨h.1,WFS_app d r s h.2 hs⟩
 | d,.call _ _ r,s,h,hs=>⟨h.1,WFS_app d r s h.2 hs⟩
theorem stmtK_app : ∀ (l s:S),stmtK (l.app s)=stmtK l ++ stmtK s
 | .nil,_=>rfl
 | .set _ _ _ _ r,s=>by simp [S.app,stmtK,stmtK_app r s]
 | .ifs _ _ _ _ r,s=>by simp [S.app,stmtK,stmtK_app r s]
 | .whil _ _ _ r,s=>by simp [S.app,stmtK,stmtK_app r s]
 | .ret _ _ r,s=>by simp [S.app,stmtK,stmtK_app r s]
 | .wri _ _ r,s=>by simp [S.app,stmtK,stmtK_app r s]
 | .call _ _ r,s=>by simp [S.app,stmtK,stmtK_app r s]
def Sp1 {α:Type} (p:Ps α) (Q : α→Prop) (c : α→Nat):Prop:=∀ ts a r,Good ts→p ts = .ok a r→Q a∧c a + bytes r≤bytes ts + 1∧Good r
def costR (x:E × S × S):Nat:=(toks x.1).length + 1 + (stmtK x.2.1).length + (if x.2.2.isNil then 0 else (stmtK x.2.2).length + 1)
theorem ex0_is {z:Nat} {ts r:List Tok} {x:E} (hg:Good ts) (h : ex0 z ts = .ok x r):Fits 11 0 x∧(toks x).length + bytes r≤bytes ts∧Good r:=by
 obtain ⟨h1,h2,h3⟩:=ex0_sp z _ _ _ hg h
 have:=(fits0 h1).2
 exact ⟨h1,by omega,h3⟩
theorem first_sp (z d p:Nat):Sp1 (first z p) (WFS d) (fun s=>(stmtK s).length):=by
 intro ts a r hg h
 rw [first] at h
 cases hn : named z (expr z (one z 10) 5) ts with
 | bad e q=>simp only [hn] at h; cases h
 | ok e r1=>
  obtain ⟨e1,e2,e3⟩:=named_sp (d:=10) (expr_sp (one_sp z 10) 5 (Nat.le_refl _)) _ _ _ hg hn
  have set : ∀ (n:List UInt8) (i:Option E),Nm n→(∀ x,i=some x→Fits 10 0 x)→1 + (indexK i).length + bytes r1≤bytes ts →
    (match must z [58,61] r1 with | .bad e q=>R.bad e q | .ok _ r2=>match ex0 z r2 with | .bad e q=>.bad e q | .ok v r3=>.ok (.set p n i v .nil) r3)=R.ok a r→WFS d a∧(stmtK a).length + bytes r≤bytes ts + 1∧Good r:=by
   intro n i hn hi hb h
   cases hm : must z [58,61] r1 with
   | bad e q=>simp only [hm] at h; cases h
   | ok u r2=>
    have m1:=must_sp e3 hm
    simp only [hm] at h
    cases hx : ex0 z r2 with
    | bad e q=>simp only [hx] at h; cases h
    | ok v r3=>
     obtain ⟨x1,x2,x3⟩:=ex0_is m1.2 hx
     simp only [hx] at h
     cases h
     refine ⟨⟨hn,hi,x1,trivial⟩,?_,x3⟩
     simp only [stmtK,List.length_cons,List.length_append,List.length_nil] at *
     omega
  cases e with
  | app a2 m n l=>
   simp only [hn] at h
   cases h
   refine ⟨⟨⟨e1,_,_,_,_,rfl⟩,trivial⟩,?_,e3⟩
   rw [costW,withinK,if_pos (show 5≤lvl (E.app a2 m n l) from Nat.le_refl 5)] at e2
   simp only [stmtK,List.length_append,List.length_cons,List.length_nil]
   omega
  | item a2 m n i=>
   simp only [hn] at h
   split at h
   ·cases h
   ·rename_i hm
    have hm : m=[]:=Classical.not_not.mp hm
    subst hm
    have hd:=e1.2
    rw [needW,if_pos (show 5≤lvl (E.item a2 [] n i) from Nat.le_refl 5),need] at hd
    rw [costW,withinK,if_pos (show 5≤lvl (E.item a2 [] n i) from Nat.le_refl 5)] at e2
    refine set n (some i) e1.1.1.2.1 ?_ ?_ h
    ·intro x hx; cases hx; exact ⟨e1.1.1.2.2,by rw [needW,if_pos (Nat.zero_le _)]; omega⟩
    ·simp only [toks,qualK,indexK,if_true,List.length_append,List.length_cons,List.length_nil] at *; omega
  | var a2 m n=>
   simp only [hn] at h
   split at h
   ·cases h
   ·rename_i hm
    have hm : m=[]:=Classical.not_not.mp hm
    subst hm
    rw [costW,withinK,if_pos (show 5≤lvl (E.var a2 [] n) from Nat.le_refl 5)] at e2
    refine set n none e1.1.1.2 (by intro x hx; cases hx) ?_ h
    simp only [toks,qualK,indexK,if_true,List.length_cons,List.length_nil] at *; omega
  | num _ _=>simp only [hn] at h; cases h
  | un _ _ _=>simp only [hn] at h; cases h
  | bin _ _ _ _=>simp only [hn] at h; cases h
  | nil=>simp only [hn] at h; cases h
  | cons _ _=>simp only [hn] at h; cases h
abbrev RQ (d:Nat) (x:E × S × S):Prop:=Fits 11 0 x.1∧BQ d x.2.1∧BQ d x.2.2
theorem restL_sp {z d:Nat} {bd:Ps S} {more:Ps (E × S × S)} (hb:Sp bd (BQ d) (fun s=>(stmtK s).length)) (hm:Sp more (fun x=>0 < d∧RQ (d - 1) x) costR):Sp (restL z bd more) (RQ d) costR:=by
 intro ts a r hg h
 rw [restL] at h
 cases h1 : ex0 z ts with
 | bad e q=>simp only [h1] at h; cases h
 | ok v r1=>
  obtain ⟨a1,a2,a3⟩:=ex0_is hg h1
  simp only [h1] at h
  cases h2 : must z [116,104,101,110] r1 with
  | bad e q=>simp only [h2] at h; cases h
  | ok u r2=>
   have m1:=must_sp a3 h2
   simp only [h2] at h
   cases h3 : bd r2 with
   | bad e q=>simp only [h3] at h; cases h
   | ok t r3=>
    obtain ⟨b1,b2,b3⟩:=hb _ _ _ m1.2 h3
    replace b2 : (stmtK t).length + bytes r3≤bytes r2:=b2
    simp only [h3] at h
    split at h
    ·rename_i hs
     have hc:=see_cost b3 hs
     cases h4 : more r3.tail with
     | bad e q=>simp only [h4] at h; cases h
     | ok x r4=>
      obtain ⟨c1,c2,c3⟩:=hm _ _ _ hc.2 h4
      simp only [h4] at h
      cases h
      refine ⟨⟨a1,b1,c1.1,c1.2.1,⟨c1.2.2.1,c1.2.2.2⟩,trivial⟩,?_,c3⟩
      rw [costR] at c2 ⊢
      have e1 : ((if x.2.2.isNil then [] else [101,108,115,101] :: stmtK x.2.2):List (List UInt8)).length=(if x.2.2.isNil then 0 else (stmtK x.2.2).length + 1):=by split <;> rfl
      simp only [stmtK,S.isNil,List.length_cons,List.length_append,List.length_nil,e1] at *
      simp only [Bool.false_eq_true,if_false]
      omega
    ·split at h
     ·rename_i hs
      have hc:=see_cost b3 hs
      cases h4 : bd r3.tail with
      | bad e q=>simp only [h4] at h; cases h
      | ok e2 r4=>
       obtain ⟨c1,c2,c3⟩:=hb _ _ _ hc.2 h4
       replace c2 : (stmtK e2).length + bytes r≤bytes r3.tail:=by simp only [h4] at h; cases h; exact c2
       simp only [h4] at h
       cases h
       refine ⟨⟨a1,b1,c1⟩,?_,c3⟩
       rw [costR]
       simp only [List.length_cons,List.length_nil] at *
       split <;> omega
     ·cases h
      refine ⟨⟨a1,b1,b1.1,trivial⟩,?_,b3⟩
      rw [costR]
      simp only [S.isNil,if_true,List.length_cons,List.length_nil] at *
      omega
theorem stmt_sp {z d:Nat} {bd:Ps S} {rest:Ps (E × S × S)} (hb:Sp bd (BQ d) (fun s=>(stmtK s).length)) (hr:Sp rest (RQ d) costR):Sp1 (stmt z bd rest) (WFS d) (fun s=>(stmtK s).length):=by
 intro ts a r hg h
 rw [stmt] at h
 split at h
 ·rename_i hs
  have hc:=see_cost hg hs
  cases h1 : rest ts.tail with
  | bad e q=>simp only [h1] at h; cases h
  | ok x r1=>
   obtain ⟨a1,a2,a3⟩:=hr _ _ _ hc.2 h1
   simp only [h1] at h
   cases h2 : must z [101,110,100] r1 with
   | bad e q=>simp only [h2] at h; cases h
   | ok u r2=>
    have m1:=must_sp a3 h2
    simp only [h2] at h
    cases h
    refine ⟨⟨a1.1,⟨a1.2.1,a1.2.2⟩,trivial⟩,?_,m1.2⟩
    rw [costR] at a2
    have e1 : ((if x.2.2.isNil then [] else [101,108,115,101] :: stmtK x.2.2):List (List UInt8)).length=(if x.2.2.isNil then 0 else (stmtK x.2.2).length + 1):=by split <;> rfl
    simp only [stmtK,List.length_cons,List.length_append,List.length_nil,e1] at *
    omega
 ·split at h
  ·rename_i hs
   have hc:=see_cost hg hs
   cases h1 : ex0 z ts.tail with
   | bad e q=>simp only [h1] at h; cases h
   | ok v r1=>
    obtain ⟨a1,a2,a3⟩:=ex0_is hc.2 h1
    simp only [h1] at h
    cases h2 : must z [100,111] r1 with
    | bad e q=>simp only [h2] at h; cases h
    | ok u r2=>
     have m1:=must_sp a3 h2
     simp only [h2] at h
     cases h3 : bd r2 with
     | bad e q=>simp only [h3] at h; cases h
     | ok t r3=>
      obtain ⟨b1,b2,b3⟩:=hb _ _ _ m1.2 h3
      simp only [h3] at h
      cases h4 : must z [101,110,100] r3 with
      | bad e q=>simp only [h4] at h; cases h
      | ok u r4=>
       have m2:=must_sp b3 h4
       simp only [h4] at h
       cases h
       refine ⟨⟨a1,b1,trivial⟩,?_,m2.2⟩
       simp only [stmtK,List.length_cons,List.length_append,List.length_nil] at *
       omega
  ·split at h
   ·rename_i hs
    have hc:=see_cost hg hs
    cases h1 : ex0 z ts.tail with
    | bad e q=>simp only [h1] at h; cases h
    | ok v r1=>
     obtain ⟨a1,a2,a3⟩:=ex0_is hc.2 h1
     simp only [h1] at h
     cases h
     refine ⟨⟨a1,trivial⟩,?_,a3⟩
     simp only [stmtK,List.length_cons,List.length_append,List.length_nil] at *
     omega
   ·split at h
    ·rename_i hs
     have hc:=see_cost hg hs
     cases h1 : ex0 z ts.tail with
     | bad e q=>simp only [h1] at h; cases h
     | ok v r1=>
      obtain ⟨a1,a2,a3⟩:=ex0_is hc.2 h1
      simp only [h1] at h
      cases h
      refine ⟨⟨a1,trivial⟩,?_,a3⟩
      simp only [stmtK,List.length_cons,List.length_append,List.length_nil] at *
      omega
    ·exact first_sp z d _ _ _ _ hg h
theorem bodyL_sp {z d:Nat} {st:Ps S} (hs:Sp1 st (WFS d) (fun s=>(stmtK s).length)) : ∀ (f:Nat) (l:S) (ts:List Tok) (a:S) (r:List Tok),Good ts→WFS d l→bodyL z st f l ts = .ok a r→WFS d a∧(stmtK a).length + bytes r≤(stmtK l).length + bytes ts∧Good r
 | 0,_,_,_,_,_,_,h=>by cases h
 | f + 1,l,ts,a,r,hg,hl,h=>by
  rw [bodyL] at h
  split at h
  ·cases h; exact ⟨hl,Nat.le_refl _,hg⟩
  ·cases h1 : st ts with
   | bad e q=>simp only [h1] at h; cases h
   | ok s r1=>
    obtain ⟨a1,a2,a3⟩:=hs _ _ _ hg h1
    replace a2 : (stmtK s).length + bytes r1≤bytes ts + 1:=a2
    simp only [h1] at h
    cases h2 : must z [59] r1 with
    | bad e q=>simp only [h2] at h; cases h
    | ok u r2=>
     have m1:=must_sp a3 h2
     simp only [h2] at h
     obtain ⟨b1,b2,b3⟩:=bodyL_sp hs f _ _ _ _ m1.2 (WFS_app d l s hl a1) h
     rw [stmtK_app,List.length_append] at b2
     simp only [List.length_cons,List.length_nil] at m1
     exact ⟨b1,by omega,b3⟩
theorem bodies_sp (z:Nat) : ∀ d,Sp (bodies z d).1 (BQ d) (fun s=>(stmtK s).length)∧Sp (bodies z d).2 (fun x=>0 < d∧RQ (d - 1) x) costR
 | 0=>⟨fun ts a r _ h=>(by cases h),fun ts a r _ h=>(by cases h)⟩
 | d + 1=>by
  obtain ⟨h1,h2⟩:=bodies_sp z d
  have hr:=restL_sp (z:=z) h1 h2
  refine ⟨fun ts a r hg h=>?_,fun ts a r hg h=>?_⟩
  ·obtain ⟨a1,a2,a3⟩:=bodyL_sp (stmt_sp (z:=z) h1 hr) _ .nil _ _ _ hg trivial h
   exact ⟨⟨Nat.succ_pos _,a1⟩,by simpa [stmtK] using a2,a3⟩
  ·obtain ⟨a1,a2,a3⟩:=hr _ _ _ hg h
   exact ⟨⟨Nat.succ_pos _,a1⟩,a2,a3⟩
theorem body0_sp (z:Nat):Sp (body0 z) (WFS 10) (fun s=>(stmtK s).length):=fun ts a r hg h=>by
 obtain ⟨a1,a2,a3⟩:=(bodies_sp z 11).1 ts a r hg h
 exact ⟨a1.2,a2,a3⟩
structure WFG (g:Glob):Prop where
 name:Nm g.name
 low : 0≤g.len
 high : g.len≤30
structure WFP (x:Proc):Prop where
 name:Nm x.name
 params : ∀ n∈x.params,Nm n
 few : x.params.length≤10
 vars : ∀ n∈x.vars,Nm n
 room : x.vars.length≤10 - x.params.length
 body:WFS 10 x.body
structure WFM (m:Mod):Prop where
 name:Nm m.name
 imports : ∀ n∈m.imports,Nm n
 few : m.imports.length≤6
 vars : ∀ g∈m.vars,WFG g
 fewv : m.vars.length≤10
 procs : ∀ x∈m.procs,WFP x
 fewp : m.procs.length≤10
 body:WFS 10 m.body
def namesK:List (List UInt8)→List (List UInt8)
 | []=>[]
 | [n]=>[n]
 | n :: m :: r=>n :: [44] :: namesK (m :: r)
def starK (b:Bool):List (List UInt8):=if b then [[42]] else []
def globK (g:Glob):List (List UInt8):=[118,97,114] :: g.name :: (starK g.seen ++ [58] :: ((if 0 < g.len then [[97,114,114,97,121],Lib.itoa g.len] else [[105,110,116]]) ++ [[59]]))
def headK (s:List UInt8) (l:List (List UInt8)):List (List UInt8):=if l=[] then [] else s :: (namesK l ++ [[59]])
def procK (x:Proc):List (List UInt8):=[112,114,111,99] :: x.name :: (starK x.seen ++ [40] :: (namesK x.params ++ [41] :: [59] :: (headK [118,97,114] x.vars ++ [98,101,103,105,110] :: (stmtK x.body ++ [[101,110,100],[59]]))))
def modK (m:Mod):List (List UInt8):=[109,111,100,117,108,101] :: m.name :: [59] :: (headK [105,109,112,111,114,116] m.imports ++ (m.vars.flatMap globK ++ (m.procs.flatMap procK ++ [98,101,103,105,110] :: (stmtK m.body ++ [[101,110,100],[46]]))))
theorem namesK_len : ∀ (l:List (List UInt8)),l≠[]→(namesK l).length + 1=2 * l.length
 | [n],_=>rfl
 | n :: m :: r,_=>by have:=namesK_len (m :: r) (by simp); simp only [namesK,List.length_cons] at *; omega
theorem skip_cost {s:List UInt8} {ts:List Tok} (hg:Good ts) (hs : s≠[]) : (starK (see s ts)).length + bytes (skip s ts)≤bytes ts∧Good (skip s ts):=by
 rw [skip]
 cases h : see s ts with
 | false=>simp [starK,hg]
 | true=>
  have:=see_cost hg h
  have : 1≤s.length:=by cases s with | nil=>exact absurd rfl hs | cons _ _=>simp
  simp [starK]
  exact ⟨by omega,(see_cost hg h).2⟩
theorem kindOf_sp (z:Nat):Sp (kindOf z) (fun n=>0≤n∧n≤30) (fun n=>if 0 < n then 2 else 1):=by
 intro ts n r hg h
 rw [kindOf] at h
 split at h
 ·rename_i hs
  have hc:=see_cost hg hs
  cases hn : number z 30 ts.tail with
  | bad e q=>simp only [hn] at h; cases h
  | ok n' r1=>
   obtain ⟨a1,a2,a3⟩:=number_sp _ _ _ hc.2 hn
   replace a2 : 1 + bytes r1≤bytes ts.tail:=a2
   simp only [hn] at h
   split at h
   ·cases h
   ·cases h
    refine ⟨a1,?_,a3⟩
    simp only [List.length_cons,List.length_nil] at hc
    show (if 0 < n then 2 else 1) + _≤_
    split <;> omega
 ·cases hm : must z [105,110,116] ts with
  | bad e q=>simp only [hm] at h; cases h
  | ok u r1=>
   have m1:=must_sp hg hm
   simp only [hm] at h
   cases h
   simp only [List.length_cons,List.length_nil] at m1
   exact ⟨⟨by omega,by omega⟩,by show 1 + _≤_; omega,m1.2⟩
theorem glob_sp (z:Nat) : ∀ ts g r,Good ts→glob z ts = .ok g r→WFG g∧(globK g).length + bytes r≤bytes ts + 1∧Good r:=by
 intro ts g r hg h
 rw [glob] at h
 cases h1 : name z ts with
 | bad e q=>simp only [h1] at h; cases h
 | ok n r1=>
  obtain ⟨a1,a2,a3⟩:=name_sp _ _ _ hg h1
  replace a2 : 1 + bytes r1≤bytes ts:=a2
  simp only [h1] at h
  have hk:=skip_cost (s:=[42]) a3 (by simp)
  cases h2 : must z [58] (skip [42] r1) with
  | bad e q=>simp only [h2] at h; cases h
  | ok u r2=>
   have m1:=must_sp hk.2 h2
   simp only [h2] at h
   cases h3 : kindOf z r2 with
   | bad e q=>simp only [h3] at h; cases h
   | ok k r3=>
    obtain ⟨b1,b2,b3⟩:=kindOf_sp z _ _ _ m1.2 h3
    replace b2 : (if 0 < k then 2 else 1) + bytes r3≤bytes r2:=b2
    simp only [h3] at h
    cases h4 : must z [59] r3 with
    | bad e q=>simp only [h4] at h; cases h
    | ok u r4=>
     have m2:=must_sp b3 h4
     simp only [h4] at h
     cases h
     refine ⟨⟨a1,b1.1,b1.2⟩,?_,m2.2⟩
     have e1 : ((if 0 < k then [[97,114,114,97,121],Lib.itoa k] else [[105,110,116]]):List (List UInt8)).length=if 0 < k then 2 else 1:=by split <;> rfl
     simp only [globK,List.length_cons,List.length_append,List.length_nil,e1] at *
     omega
theorem varsL_sp (z:Nat) : ∀ (f:Nat) (l:List Glob) (ts:List Tok) (a:List Glob) (r:List Tok),Good ts→(∀ g∈l,WFG g)→l.length≤10→varsL z f l ts = .ok a r→(∀ g∈a,WFG g)∧a.length≤10∧(a.flatMap globK).length + bytes r≤(l.flatMap globK).length + bytes ts∧Good r
 | 0,_,_,_,_,_,_,_,h=>by cases h
 | f + 1,l,ts,a,r,hg,hl,hn,h=>by
  rw [varsL] at h
  split at h
  ·rename_i hs
   have hc:=see_cost hg hs
   split at h
   ·cases h
   ·cases h1 : glob z ts.tail with
    | bad e q=>simp only [h1] at h; cases h
    | ok g r1=>
     obtain ⟨a1,a2,a3⟩:=glob_sp z _ _ _ hc.2 h1
     simp only [h1] at h
     obtain ⟨b1,b2,b3,b4⟩:=varsL_sp z f _ _ _ _ a3 (by
      intro x hx
      rcases List.mem_append.mp hx with hx | hx
      ·exact hl x hx
      ·simp at hx; subst hx; exact a1) (by simp; omega) h
     refine ⟨b1,b2,?_,b4⟩
     simp only [List.flatMap_append,List.flatMap_cons,List.flatMap_nil,List.append_nil,List.length_append,List.length_cons,List.length_nil] at *
     omega
  ·cases h; exact ⟨hl,hn,Nat.le_refl _,hg⟩
theorem params_sp (z:Nat) : ∀ ts l r,Good ts→params z ts = .ok l r→(∀ n∈l,Nm n)∧l.length≤10∧(namesK l).length + 1 + bytes r≤bytes ts∧Good r:=by
 intro ts l r hg h
 rw [params] at h
 split at h
 ·rename_i hs
  have hc:=see_cost hg hs
  cases h
  simp only [List.length_cons,List.length_nil] at hc
  exact ⟨by simp,by simp,by simp [namesK]; omega,hc.2⟩
 ·cases h1 : names z 10 ts with
  | bad e q=>simp only [h1] at h; cases h
  | ok l' r1=>
   obtain ⟨a1,a2,a3,a4,a5⟩:=names_sp hg h1
   simp only [h1] at h
   cases h2 : must z [41] r1 with
   | bad e q=>simp only [h2] at h; cases h
   | ok u r2=>
    have m1:=must_sp a5 h2
    simp only [h2] at h
    cases h
    have:=namesK_len l a3
    simp only [List.length_cons,List.length_nil] at m1
    exact ⟨a1,a2,by omega,m1.2⟩
theorem head_sp {z most:Nat} {s:List UInt8} {ts:List Tok} {l:List (List UInt8)} {r:List Tok} (hs : s≠[]) (hg:Good ts) (h : (if see s ts then match names z most ts.tail with
  | .bad e p=>.bad e p
  | .ok l r=>match must z [59] r with
   | .bad e p=>.bad e p
   | .ok _ r2=>.ok l r2
 else R.ok [] ts) = .ok l r) : (∀ n∈l,Nm n)∧l.length≤most∧(headK s l).length + bytes r≤bytes ts∧Good r:=by
 split at h
 ·rename_i h0
  have hc:=see_cost hg h0
  have hl : 1≤s.length:=by cases s with | nil=>exact absurd rfl hs | cons _ _=>simp
  cases h1 : names z most ts.tail with
  | bad e q=>simp only [h1] at h; cases h
  | ok l' r1=>
   obtain ⟨a1,a2,a3,a4,a5⟩:=names_sp hc.2 h1
   simp only [h1] at h
   cases h2 : must z [59] r1 with
   | bad e q=>simp only [h2] at h; cases h
   | ok u r2=>
    have m1:=must_sp a5 h2
    simp only [h2] at h
    cases h
    have:=namesK_len l a3
    refine ⟨a1,a2,?_,m1.2⟩
    rw [headK,if_neg a3]
    simp only [List.length_cons,List.length_append,List.length_nil] at *
    omega
 ·cases h; exact ⟨by simp,by simp,by simp [headK],hg⟩
theorem block_sp (z:Nat) {m:List UInt8} (hm : m.length=1) : ∀ ts b r,Good ts→block z m ts = .ok b r→WFS 10 b∧(stmtK b).length + 3 + bytes r≤bytes ts∧Good r:=by
 intro ts b r hg h
 rw [block] at h
 cases h1 : must z [98,101,103,105,110] ts with
 | bad e q=>simp only [h1] at h; cases h
 | ok u r1=>
  have m1:=must_sp hg h1
  simp only [h1] at h
  cases h2 : body0 z r1 with
  | bad e q=>simp only [h2] at h; cases h
  | ok s r2=>
   obtain ⟨a1,a2,a3⟩:=body0_sp z _ _ _ m1.2 h2
   replace a2 : (stmtK s).length + bytes r2≤bytes r1:=a2
   simp only [h2] at h
   cases h3 : must z [101,110,100] r2 with
   | bad e q=>simp only [h3] at h; cases h
   | ok u r3=>
    have m2:=must_sp a3 h3
    simp only [h3] at h
    cases h4 : must z m r3 with
    | bad e q=>simp only [h4] at h; cases h
    | ok u r4=>
     have m3:=must_sp m2.2 h4
     simp only [h4] at h
     cases h
     simp only [List.length_cons,List.length_nil] at m1 m2 m3
     exact ⟨a1,by omega,m3.2⟩
theorem proc_sp (z:Nat) : ∀ ts x r,Good ts→proc z ts = .ok x r→WFP x∧(procK x).length + bytes r≤bytes ts∧Good r:=by
 intro ts x r hg h
 rw [proc] at h
 cases h1 : must z [112,114,111,99] ts with
 | bad e q=>simp only [h1] at h; cases h
 | ok u r1=>
  have m1:=must_sp hg h1
  simp only [h1] at h
  cases h2 : name z r1 with
  | bad e q=>simp only [h2] at h; cases h
  | ok n r2=>
   obtain ⟨a1,a2,a3⟩:=name_sp _ _ _ m1.2 h2
   replace a2 : 1 + bytes r2≤bytes r1:=a2
   simp only [h2] at h
   have hk:=skip_cost (s:=[42]) a3 (by simp)
   cases h3 : must z [40] (skip [42] r2) with
   | bad e q=>simp only [h3] at h; cases h
   | ok u r3=>
    have m2:=must_sp hk.2 h3
    simp only [h3] at h
    cases h4 : params z r3 with
    | bad e q=>simp only [h4] at h; cases h
    | ok ps r4=>
     obtain ⟨b1,b2,b3,b4⟩:=params_sp z _ _ _ m2.2 h4
     simp only [h4] at h
     cases h5 : must z [59] r4 with
     | bad e q=>simp only [h5] at h; cases h
     | ok u r5=>
      have m3:=must_sp b4 h5
      simp only [h5] at h
      cases h6 : locals z (10 - ps.length) r5 with
      | bad e q=>simp only [h6] at h; cases h
      | ok vs r6=>
       obtain ⟨c1,c2,c3,c4⟩:=head_sp (s:=[118,97,114]) (by simp) m3.2 h6
       simp only [h6] at h
       cases h7 : block z [59] r6 with
       | bad e q=>simp only [h7] at h; cases h
       | ok b r7=>
        obtain ⟨d1,d2,d3⟩:=block_sp z rfl _ _ _ c4 h7
        simp only [h7] at h
        cases h
        refine ⟨⟨a1,b1,b2,c1,c2,d1⟩,?_,d3⟩
        simp only [procK,List.length_cons,List.length_append,List.length_nil] at *
        omega
theorem procsL_sp (z:Nat) : ∀ (f:Nat) (l:List Proc) (ts:List Tok) (a:List Proc) (r:List Tok),Good ts→(∀ g∈l,WFP g)→l.length≤10→procsL z f l ts = .ok a r→(∀ g∈a,WFP g)∧a.length≤10∧(a.flatMap procK).length + bytes r≤(l.flatMap procK).length + bytes ts∧Good r
 | 0,_,_,_,_,_,_,_,h=>by cases h
 | f + 1,l,ts,a,r,hg,hl,hn,h=>by
  rw [procsL] at h
  split at h
  ·split at h
   ·cases h
   ·cases h1 : proc z ts with
    | bad e q=>simp only [h1] at h; cases h
    | ok g r1=>
     obtain ⟨a1,a2,a3⟩:=proc_sp z _ _ _ hg h1
     simp only [h1] at h
     obtain ⟨b1,b2,b3,b4⟩:=procsL_sp z f _ _ _ _ a3 (by
      intro x hx
      rcases List.mem_append.mp hx with hx | hx
      ·exact hl x hx
      ·simp at hx; subst hx; exact a1) (by simp; omega) h
     refine ⟨b1,b2,?_,b4⟩
     simp only [List.flatMap_append,List.flatMap_cons,List.flatMap_nil,List.append_nil,List.length_append] at *
     omega
  ·cases h; exact ⟨hl,hn,Nat.le_refl _,hg⟩
theorem module_sp (z:Nat) : ∀ ts m r,Good ts→module_ z ts = .ok m r→WFM m∧(modK m).length + bytes r≤bytes ts∧Good r:=by
 intro ts m r hg h
 rw [module_] at h
 cases h1 : must z [109,111,100,117,108,101] ts with
 | bad e q=>simp only [h1] at h; cases h
 | ok u r1=>
  have m1:=must_sp hg h1
  simp only [h1] at h
  cases h2 : name z r1 with
  | bad e q=>simp only [h2] at h; cases h
  | ok n r2=>
   obtain ⟨a1,a2,a3⟩:=name_sp _ _ _ m1.2 h2
   replace a2 : 1 + bytes r2≤bytes r1:=a2
   simp only [h2] at h
   cases h3 : must z [59] r2 with
   | bad e q=>simp only [h3] at h; cases h
   | ok u r3=>
    have m2:=must_sp a3 h3
    simp only [h3] at h
    cases h4 : imports z r3 with
    | bad e q=>simp only [h4] at h; cases h
    | ok is r4=>
     obtain ⟨b1,b2,b3,b4⟩:=head_sp (s:=[105,109,112,111,114,116]) (by simp) m2.2 h4
     simp only [h4] at h
     cases h5 : varsL z 11 [] r4 with
     | bad e q=>simp only [h5] at h; cases h
     | ok vs r5=>
      obtain ⟨c1,c2,c3,c4⟩:=varsL_sp z _ _ _ _ _ b4 (by simp) (by simp) h5
      simp only [h5] at h
      cases h6 : procsL z 11 [] r5 with
      | bad e q=>simp only [h6] at h; cases h
      | ok ps r6=>
       obtain ⟨d1,d2,d3,d4⟩:=procsL_sp z _ _ _ _ _ c4 (by simp) (by simp) h6
       simp only [h6] at h
       cases h7 : block z [46] r6 with
       | bad e q=>simp only [h7] at h; cases h
       | ok b r7=>
        obtain ⟨e1,e2,e3⟩:=block_sp z rfl _ _ _ d4 h7
        simp only [h7] at h
        cases h
        refine ⟨⟨a1,b1,b2,c1,c2,d1,d2,e1⟩,?_,e3⟩
        simp only [modK,List.length_cons,List.length_append,List.length_nil,List.flatMap_nil] at *
        omega
theorem parse_sp {l:List UInt8} {m:Mod} (h : parse l = .ok m):WFM m∧(modK m).length≤l.length:=by
 rw [parse] at h
 cases hl : lex l with
 | bad e p=>simp only [hl] at h; cases h
 | ok ts=>
  have h1:=lexL_good _ _ _ _ _ hl
  simp only [hl] at h
  cases hm : module_ l.length ts with
  | bad e p=>simp only [hm] at h; cases h
  | ok m' r=>
   obtain ⟨a1,a2,_⟩:=module_sp _ _ _ _ h1.1 hm
   simp only [hm] at h
   cases r with
   | nil=>cases h; exact ⟨a1,by omega⟩
   | cons t r=>cases h
end Go.Mq.Tree
namespace Go.Proofs.YtojkkgghndeimaaGreatDoor
open Go Go.RowKit Go.Mq Go.Mq.Tree
set_option maxRecDepth 100000
set_option maxHeartbeats 4000000
end Go.Proofs.YtojkkgghndeimaaGreatDoor
namespace Go.Mq.Tree
open Go Go.RowKit Go.Mq
def Mono {α:Type} (p:Ps α):Prop:=∀ ts a r,p ts = .ok a r→r.length≤ts.length
def Eats {α:Type} (p:Ps α):Prop:=∀ ts a r,p ts = .ok a r→r.length < ts.length
theorem Eats.mono {α:Type} {p:Ps α} (h:Eats p):Mono p:=fun ts a r hr=>Nat.le_of_lt (h ts a r hr)
theorem opOf_see {lv:List (List UInt8)} {ts:List Tok} {m:List UInt8} (h : opOf lv ts=some m) : see m ts=true:=by
 have:=List.find?_some h
 simpa using this
theorem binL_mono {sub:Ps E} (hs:Mono sub) (lv:List (List UInt8)) (p:Nat) : ∀ f x,Mono (binL sub lv p f x):=by
 intro f
 induction f with
 | zero=>intro x ts a r h; cases h
 | succ f ih=>
  intro x ts a r h
  rw [binL] at h
  cases ho : opOf lv ts with
  | none=>rw [ho] at h; cases h; exact Nat.le_refl _
  | some m=>
   rw [ho] at h
   have:=see_tail (opOf_see ho)
   cases hsub : sub ts.tail with
   | bad e q=>rw [hsub] at h; cases h
   | ok y r2=>
    rw [hsub] at h
    have h1:=hs _ _ _ hsub
    have h2:=ih _ _ _ _ h
    omega
theorem expr_mono {z:Nat} {base:Ps E} (hb:Mono base) : ∀ k,Mono (expr z base k):=by
 intro k
 induction k with
 | zero=>exact hb
 | succ k ih=>
  intro ts a r h
  rw [expr] at h
  simp only at h
  cases hx : expr z base k ts with
  | bad e q=>rw [hx] at h; cases h
  | ok x r2=>
   rw [hx] at h
   have h1:=ih _ _ _ hx
   have h2:=binL_mono ih _ _ _ _ _ _ _ h
   omega
theorem expr_eats {z:Nat} {base:Ps E} (hb:Eats base) : ∀ k,Eats (expr z base k):=by
 intro k
 induction k with
 | zero=>exact hb
 | succ k ih=>
  intro ts a r h
  rw [expr] at h
  simp only at h
  cases hx : expr z base k ts with
  | bad e q=>rw [hx] at h; cases h
  | ok x r2=>
   rw [hx] at h
   have h1:=ih _ _ _ hx
   have h2:=binL_mono ih.mono _ _ _ _ _ _ _ h
   omega
def stepE (sub:Ps E) (lv:List (List UInt8)) (z:Nat):Ps E:=fun ts=>match sub ts with
 | .bad e p=>.bad e p
 | .ok x r=>binL sub lv (hd z ts) (r.length + 1) x r
def cntOf (w:World) (bp:Nat):Nat:=match w.cell? ⟨bp,0,none⟩ with
 | some v=>lenOf v
 | none=>0
theorem Par.cnt {w:World} {B bp bt z:Nat} {ts:List Tok} (h:Par w B bp bt z ts) : cntOf w bp=ts.length + 1:=by
 obtain ⟨off,c,hb,_⟩:=h.at_
 rw [cntOf,hb.cell 0 _ rfl]
 rfl
abbrev EV (w:World):World→E→Value→Prop:=fun w' e v=>EAt w' (New w w') e [v]
theorem EAt.grown {w w1 w2:World} {bp:Nat} {e:E} {us:List Value} (h:EAt w1 (New w w1) e us) (hbp : bp < w.heap.size) (hc:Chg [bp] w1 w2):EAt w2 (New w w2) e us:=
 (h.kept hc (fun x hx hn=>by simp at hx; have:=hn.1; omega)).mono fun x hx=>⟨hx.1,by have:=hc.size; have:=hx.2; omega⟩
theorem EAt.later {w w0 w1:World} {e:E} {us:List Value} (h:EAt w1 (New w0 w1) e us) (hs : w.heap.size≤w0.heap.size):EAt w1 (New w w1) e us:=h.mono fun _ hx=>⟨Nat.le_trans hs hx.1,hx.2⟩
theorem EAt.ptr {w:World} {F:Nat→Prop} {e:E} : ∀ {v:Value},EAt w F e [v] → ∃ b,v=ptr b:=by
 induction e with
 | num p n=>rintro v ⟨b,h1,_⟩; cases h1; exact ⟨b,rfl⟩
 | var p m n=>rintro v ⟨b,h1,_⟩; cases h1; exact ⟨b,rfl⟩
 | item p m n i ih=>rintro v ⟨b,u,h1,_⟩; cases h1; exact ⟨b,rfl⟩
 | un p op x ih=>rintro v ⟨b,u,h1,_⟩; cases h1; exact ⟨b,rfl⟩
 | bin p op x y ih1 ih2=>rintro v ⟨b,u,v',h1,_⟩; cases h1; exact ⟨b,rfl⟩
 | app p m n l ih=>rintro v ⟨b,a,c,vs,h1,_⟩; cases h1; exact ⟨b,rfl⟩
 | nil=>intro v h; cases h
 | cons x r ih1 ih2=>rintro v ⟨u,vs,h1,h2,h3⟩; cases h1; exact ih1 h2
end Go.Mq.Tree
namespace Go.Proofs.YtojkkgghndeimaaGreatDoor
open Go Go.RowKit Go.Mq Go.Mq.Tree
set_option maxRecDepth 100000
set_option maxHeartbeats 4000000
end Go.Proofs.YtojkkgghndeimaaGreatDoor
namespace Go.Mq.Tree
open Go Go.RowKit Go.Mq
structure Framed (Q:World→(Nat→Prop)→Prop):Prop where
 mono : ∀ {w:World} {F G:Nat→Prop},(∀ x,F x→G x)→Q w F→Q w G
 kept : ∀ {S:List Nat} {w w':World} {F:Nat→Prop},Chg S w w'→(∀ x∈S,¬ F x)→Q w F→Q w' F
def Off (w wr:World) (l:Value):Nat→Prop:=fun b=>w.heap.size≤b∧b < wr.heap.size∧b∉blk l
section
variable {Q:World→(Nat→Prop)→Prop} {w wr w2 w3 w':World} {l l':Value} {o:Obj}
theorem Framed.call (hQ:Framed Q) {bp:Nat} (h:Q wr (Off w wr l)) (hc:Chg [bp] wr w2) (hbp : bp < w.heap.size):Q w2 (Off w w2 l):=
 hQ.mono (fun x hx=>⟨hx.1,by have:=hc.size; have:=hx.2.1; omega,hx.2.2⟩) (hQ.kept hc (fun x hx hn=>by simp at hx; have:=hn.1; omega) h)
theorem Framed.fresh (hQ:Framed Q) (h:Q w2 (New w3 w2)) (hl : ∀ g∈blk l,g < w3.heap.size) (hs : w.heap.size≤w3.heap.size):Q w2 (Off w w2 l):=
 hQ.mono (fun x hx=>⟨Nat.le_trans hs hx.1,hx.2,fun hm=>by have:=hl x hm; have:=hx.1; omega⟩) h
theorem Framed.app (hQ:Framed Q) (h:Q w2 (Off w w2 l)) (hch:Chg (blk l) (w2.alloc o) w') (hm:Moved (w2.alloc o) l l'):Q w' (Off w w' l'):=by
 refine hQ.mono (fun x hx=>⟨hx.1,by have h1 : w2.heap.size≤(w2.alloc o).heap.size:=(by simp); have:=hch.size; have:=hx.2.1; omega,fun hm'=>?_⟩) (hQ.kept (((Chg.refl [] w2).alloc o).weak.then hch) (fun x hx hn=>hn.2.2 hx) h)
 rcases hm x hm' with h1 | h1
 ·exact hx.2.2 h1
 ·have:=hx.2.1; simp at h1; omega
theorem Framed.done (hQ:Framed Q) (h:Q wr (Off w wr l)):Q wr (New w wr):=hQ.mono (fun _ hx=>⟨hx.1,hx.2.1⟩) h
end
theorem framed_E (e:E) (us:List Value):Framed (fun w F=>EAt w F e us):=⟨fun hF h=>h.mono hF,fun hc hS h=>h.kept hc hS⟩
theorem framed_Es (l:List E) (us:List Value):Framed (fun w F=>EsAt w F l us):=⟨fun hF h=>h.mono hF,fun hc hS h=>h.kept hc hS⟩
theorem framed_S (s:S) (cs:List Value):Framed (fun w F=>SAt w F s cs):=⟨fun hF h=>h.mono hF,fun hc hS h=>h.kept hc hS⟩
theorem framed_Prs (l:List Proc) (cs:List Value):Framed (fun w F=>PrsAt w F l cs):=⟨fun hF h=>h.mono hF,fun hc hS h=>h.kept hc hS⟩
theorem argsL_mono {z:Nat} {ex:Ps E} (hs:Eats ex) : ∀ f first l,Mono (argsL z ex f first l):=by
 intro f
 induction f with
 | zero=>intro first l ts a r h; cases h
 | succ f ih=>
  intro first l ts a r h
  rw [argsL] at h
  cases h1 : see [41] ts with
  | true=>rw [h1,if_pos rfl] at h; cases h; simp
  | false=>
   rw [h1,if_neg (by simp)] at h
   split at h
   ·cases h
   ·split at h
    ·cases h
    ·rename_i x r2 hx
     have g1:=hs _ _ _ hx
     have g2:=ih _ _ _ _ _ h
     have g3 : (if first=true then ts else ts.tail).length≤ts.length:=by split <;> simp
     omega
end Go.Mq.Tree
namespace Go.Proofs.YtojkkgghndeimaaGreatDoor
open Go Go.RowKit Go.Mq Go.Mq.Tree
set_option maxRecDepth 100000
set_option maxHeartbeats 4000000
theorem infoPtr : (Tryz.prog.info? 136).map (fun i=>(i.zero,i.size,i.bytes))=some (some (.pointer none),1,8):=by kernel_rfl
theorem wrap_next {deep:Nat} (h : deep≤11):IntKind.i64.wrap ((deep:Int) + 1)=(deep:Int) + 1:=by
 simp only [IntKind.wrap,IntKind.bits,IntKind.signed]; simp; omega
end Go.Proofs.YtojkkgghndeimaaGreatDoor
namespace Go.Mq.Tree
open Go Go.RowKit Go.Mq
def namedR (z:Nat) (ex:Ps E) (p:Nat) (q:List UInt8 × List UInt8):Ps E:=fun r=>if see [91] r then match ex r.tail with
  | .bad e p=>.bad e p
  | .ok i r2=>match must z [93] r2 with
   | .bad e p=>.bad e p
   | .ok _ r3=>.ok (.item p q.1 q.2 i) r3
 else if see [40] r then match argsL z ex (r.length + 1) true [] r.tail with
  | .bad e p=>.bad e p
  | .ok l r2=>.ok (.app p q.1 q.2 (E.ofList l)) r2
 else .ok (.var p q.1 q.2) r
theorem named_eq (z:Nat) (ex:Ps E) (ts:List Tok) : named z ex ts=match qual z ts with
  | .bad e p=>.bad e p
  | .ok q r=>namedR z ex (hd z ts) q r:=rfl
theorem qual_eats (z:Nat):Eats (qual z):=by
 intro ts a r h
 rw [qual] at h
 cases h1 : name z ts with
 | bad e p=>rw [h1] at h; cases h
 | ok n r1=>
  rw [h1] at h
  have g1:=name_len h1
  simp only at h
  split at h
  ·rename_i hs
   have g2:=see_tail hs
   cases h2 : name z r1.tail with
   | bad e p=>rw [h2] at h; cases h
   | ok n2 r2=>
    rw [h2] at h
    have g3:=name_len h2
    cases h
    omega
  ·cases h; omega
theorem must_len {z:Nat} {s:List UInt8} {ts r:List Tok} {u:Unit} (h : must z s ts = .ok u r) : r.length + 1=ts.length:=by
 rw [must] at h
 split at h
 ·rename_i hs; cases h; exact see_tail hs
 ·cases h
theorem namedR_mono {z:Nat} {ex:Ps E} (he:Eats ex) (p:Nat) (q:List UInt8 × List UInt8):Mono (namedR z ex p q):=by
 intro ts a r h
 rw [namedR] at h
 split at h
 ·cases h1 : ex ts.tail with
  | bad e p=>rw [h1] at h; cases h
  | ok i r2=>
   rw [h1] at h
   have g1:=he _ _ _ h1
   cases h2 : must z [93] r2 with
   | bad e p=>simp only [h2] at h; cases h
   | ok u r3=>
    simp only [h2] at h
    have g2:=must_len h2
    cases h
    simp at g1
    omega
 ·split at h
  ·cases h1 : argsL z ex (ts.length + 1) true [] ts.tail with
   | bad e p=>rw [h1] at h; cases h
   | ok l r2=>
    rw [h1] at h
    have g1:=argsL_mono he _ _ _ _ _ _ h1
    cases h
    simp at g1
    omega
  ·cases h; exact Nat.le_refl _
theorem named_eats {z:Nat} {ex:Ps E} (he:Eats ex):Eats (named z ex):=by
 intro ts a r h
 rw [named_eq] at h
 cases h1 : qual z ts with
 | bad e p=>rw [h1] at h; cases h
 | ok q r1=>
  rw [h1] at h
  have g1:=qual_eats z _ _ _ h1
  have g2:=namedR_mono he _ _ _ _ _ h
  omega
end Go.Mq.Tree
namespace Go.Proofs.YtojkkgghndeimaaGreatDoor
open Go Go.RowKit Go.Mq Go.Mq.Tree
set_option maxRecDepth 100000
set_option maxHeartbeats 8000000
end Go.Proofs.YtojkkgghndeimaaGreatDoor
namespace Go.Mq.Tree
open Go Go.RowKit Go.Mq
def isNum:List Tok→Bool
 | []=>false
 | t :: _=>decide (t.kind = .number)
theorem one_eq (z d:Nat) (ts:List Tok) : one z (d + 1) ts=if see [45] ts then (match one z d ts.tail with
   | .bad e p=>.bad e p
   | .ok x r=>.ok (.un (hd z ts) [45] x) r)
  else if see [110,111,116] ts then (match one z d ts.tail with
   | .bad e p=>.bad e p
   | .ok x r=>.ok (.un (hd z ts) [110,111,116] x) r)
  else if see [40] ts then (match expr z (one z d) 5 ts.tail with
   | .bad e p=>.bad e p
   | .ok x r=>match must z [41] r with
    | .bad e p=>.bad e p
    | .ok _ r2=>.ok x r2)
  else if isNum ts then (match number z 9223372036854775807 ts with
   | .bad e p=>.bad e p
   | .ok n r=>.ok (.num (hd z ts) n) r)
  else named z (expr z (one z d) 5) ts:=by
 cases ts with
 | nil=>rfl
 | cons t r=>
  rw [one]
  simp only [isNum,decide_eq_true_eq]
  rfl
theorem number_len {z:Nat} {most:Int} {ts r:List Tok} {n:Int} (h : number z most ts = .ok n r) : r.length + 1=ts.length:=by
 cases ts with
 | nil=>cases h
 | cons t l=>
  rw [number] at h
  split at h
  ·cases h
  ·split at h
   ·split at h
    ·cases h
    ·cases h; rfl
   ·cases h
theorem one_eats (z:Nat) : ∀ d,Eats (one z d):=by
 intro d
 induction d with
 | zero=>intro ts a r h; cases h
 | succ d ih=>
  intro ts a r h
  rw [one_eq] at h
  split at h
  ·rename_i hs
   have g1:=see_tail hs
   cases h1 : one z d ts.tail with
   | bad e p=>rw [h1] at h; cases h
   | ok x r2=>rw [h1] at h; cases h; have:=ih _ _ _ h1; omega
  ·split at h
   ·rename_i hs
    have g1:=see_tail hs
    cases h1 : one z d ts.tail with
    | bad e p=>rw [h1] at h; cases h
    | ok x r2=>rw [h1] at h; cases h; have:=ih _ _ _ h1; omega
   ·split at h
    ·rename_i hs
     have g1:=see_tail hs
     cases h1 : expr z (one z d) 5 ts.tail with
     | bad e p=>rw [h1] at h; cases h
     | ok x r2=>
      rw [h1] at h
      have g2:=expr_eats ih 5 _ _ _ h1
      cases h2 : must z [41] r2 with
      | bad e p=>simp only [h2] at h; cases h
      | ok u r3=>simp only [h2] at h; have g3:=must_len h2; cases h; omega
    ·split at h
     ·cases h1 : number z 9223372036854775807 ts with
      | bad e p=>rw [h1] at h; cases h
      | ok n r2=>rw [h1] at h; cases h; have:=number_len h1; omega
     ·exact named_eats (expr_eats ih 5) _ _ _ h
end Go.Mq.Tree
namespace Go.Proofs.YtojkkgghndeimaaGreatDoor
open Go Go.RowKit Go.Mq Go.Mq.Tree
set_option maxRecDepth 100000
set_option maxHeartbeats 8000000
end Go.Proofs.YtojkkgghndeimaaGreatDoor
namespace Go.Mq.Tree
open Go Go.RowKit Go.Mq
def EndedS {α:Type} (w:World) (B bp bs' bt z:Nat) (r:R α) (V:World→α→Prop) (e:Ending) (w':World):Prop:=Chg [bp,bs'] w w'∧match r with
 | .ok a ts=>e = .returned (.tuple #[])∧V w' a∧Par w' B bp bt z ts
 | .bad en p=>∃ b,e = .panicked [{ v:=.iface 91 (.agg #[.iface 167 (ptr b)]),recovered:=false }]∧w.heap.size≤b∧Blk w' b #[.int .i64 en,.int .i64 p] 168
theorem EndedS.part {α:Type} {w w2:World} {B bp bs' bt z:Nat} {o:R α} {V:World→α→Prop} {e:Ending} (h:EndedS w B bp bs' bt z o V e w2) :
  (∃ en q b,e = .panicked [{ v:=.iface 91 (.agg #[.iface 167 (ptr b)]),recovered:=false }]∧Hid (o = .bad en q)∧Hid (EndedS w B bp bs' bt z (.bad en q:R α) V (.panicked [{ v:=.iface 91 (.agg #[.iface 167 (ptr b)]),recovered:=false }]) w2)) ∨
  ∃ a r,Hid (o = .ok a r)∧EndedS w B bp bs' bt z (.ok a r) V e w2:=by
 cases o with
 | bad en q=>obtain ⟨hc,b,rfl,hb⟩:=h; exact .inl ⟨en,q,b,rfl,Lib.hid rfl,Lib.hid ⟨hc,b,rfl,hb⟩⟩
 | ok a r=>exact .inr ⟨a,r,Lib.hid rfl,h⟩
abbrev New2 (w w':World):Nat→Prop:=fun b=>w.heap.size + 2≤b∧b < w'.heap.size
theorem framed_Names (l:List (List UInt8)) (v:Value):Framed (fun w F=>NamesAt w F l v):=⟨fun hF h=>h.mono hF,fun hc hS h=>h.kept hc hS⟩
theorem framed_Sl (s:S) (v:Value):Framed (fun w F=>SlAt w F s v):=⟨fun hF h=>h.mono hF,fun hc hS h=>h.kept hc hS⟩
theorem framed_true:Framed (fun _ _=>True):=⟨fun _ h=>h,fun _ _ h=>h⟩
theorem Framed.and {Q Q':World→(Nat→Prop)→Prop} (h:Framed Q) (h':Framed Q'):Framed (fun w F=>Q w F∧Q' w F):=⟨fun hF x=>⟨h.mono hF x.1,h'.mono hF x.2⟩,fun hc hS x=>⟨h.kept hc hS x.1,h'.kept hc hS x.2⟩⟩
structure Mk (T:TypeId) (w wk:World) (B bp bt z:Nat) (tk:List Tok) (zs cs:Array Value) (Q:World→(Nat→Prop)→Prop):Prop where
 fr:Framed Q
 hbp : bp < w.heap.size
 hbt : bt < w.heap.size
 chg:Chg [bp] w wk
 par:Par wk B bp bt z tk
 blk:Blk wk (w.heap.size + 1) cs T
 res:Blk wk w.heap.size zs T
 sz : w.heap.size + 2≤wk.heap.size
 q:Q wk (New2 w wk)
section
variable {T:TypeId} {w wk w':World} {B bp bt z:Nat} {tk t':List Tok} {zs cs:Array Value} {Q Q':World→(Nat→Prop)→Prop}
theorem Mk.step (h:Mk T w wk B bp bt z tk zs cs Q) (hc:Chg [bp] wk w') (hp:Par w' B bp bt z t'):Mk T w w' B bp bt z t' zs cs Q:=
 ⟨h.fr,h.hbp,h.hbt,h.chg.then hc,hp,h.blk.kept hc (by have:=h.hbp; simp; omega),h.res.kept hc (by have:=h.hbp; simp; omega),Nat.le_trans h.sz hc.size,
  h.fr.mono (fun x hx=>⟨hx.1,Nat.lt_of_lt_of_le hx.2 hc.size⟩) (h.fr.kept hc (fun x hx hn=>by have:=h.hbp; simp at hx; have:=hn.1; omega) h.q)⟩
theorem Mk.add (h:Mk T w wk B bp bt z tk zs cs Q) (hf:Framed Q') (hq:Q' wk (New2 w wk)):Mk T w wk B bp bt z tk zs cs (fun w F=>Q w F∧Q' w F):=
 ⟨h.fr.and hf,h.hbp,h.hbt,h.chg,h.par,h.blk,h.res,h.sz,h.q,hq⟩
theorem Mk.call (h:Mk T w wk B bp bt z tk zs cs Q) (hc:Chg [bp] wk w') (hp:Par w' B bp bt z t') (hf:Framed Q') (hq:Q' w' (New wk w')):Mk T w w' B bp bt z t' zs cs (fun w F=>Q w F∧Q' w F):=
 (h.step hc hp).add hf (hf.mono (fun _ hx=>⟨Nat.le_trans h.sz hx.1,hx.2⟩) hq)
theorem Mk.store (h:Mk T w wk B bp bt z tk zs cs Q) (i:Nat) (v:Value):Mk T w (wk.setCell ⟨w.heap.size + 1,i,none⟩ v) B bp bt z tk zs (cs.setIfInBounds i v) Q:=by
 have hc:Chg [w.heap.size + 1] wk (wk.setCell ⟨w.heap.size + 1,i,none⟩ v):=Chg.set1 _ _ _ _
 have h1:=h.hbp; have h2:=h.hbt; have h3:=h.par.laid.le; have h4:=h.par.bpB
 exact ⟨h.fr,h1,h2,h.chg.trans hc (fun x hx=>.inr (by simp at hx; omega)),h.par.kept hc (fun x hx=>by simp at hx; omega) (by simp; omega) (by simp; omega),h.blk.set i v,h.res.kept hc (by simp),Nat.le_trans h.sz hc.size,
  h.fr.mono (fun x hx=>⟨hx.1,Nat.lt_of_lt_of_le hx.2 hc.size⟩) (h.fr.kept hc (fun x hx hn=>by simp at hx; have:=hn.1; omega) h.q)⟩
end
theorem Mk.loop {T:TypeId} {w wk w':World} {B bp bt z:Nat} {tk t':List Tok} {zs cs cs':Array Value} {Q:World→(Nat→Prop)→Prop} (h:Mk T w wk B bp bt z tk zs cs Q) (hc:Chg [bp,w.heap.size + 1] wk w') (hp:Par w' B bp bt z t') (hb:Blk w' (w.heap.size + 1) cs' T):Mk T w w' B bp bt z t' zs cs' Q:=
 ⟨h.fr,h.hbp,h.hbt,h.chg.trans hc (fun x hx=>by simp at hx; rcases hx with rfl | rfl; exact .inl (by simp); exact .inr (by omega)),hp,hb,h.res.kept hc (by have:=h.hbp; simp; omega),Nat.le_trans h.sz hc.size,
  h.fr.mono (fun x hx=>⟨hx.1,Nat.lt_of_lt_of_le hx.2 hc.size⟩) (h.fr.kept hc (fun x hx hn=>by have:=h.hbp; simp at hx; have:=hn.1; omega) h.q)⟩
theorem Mk.bad {T:TypeId} {w wk w2:World} {B bp bt z:Nat} {tk:List Tok} {zs cs:Array Value} {Q:World→(Nat→Prop)→Prop} {β:Type} {o:R β} {V:World→β→Value→Prop} {en q b:Nat} (h:Mk T w wk B bp bt z tk zs cs Q) (hE:Chg [bp,w.heap.size + 1] wk w2∧wk.heap.size≤b∧Blk w2 b #[.int .i64 en,.int .i64 q] 168) (e : o = .bad en q) :
  Ended w B bp bt z o V (.panicked [{ v:=.iface 91 (.agg #[.iface 167 (ptr b)]),recovered:=false }]) w2:=by
 subst e
 exact ⟨h.chg.trans hE.1 (fun x hx=>by simp at hx; rcases hx with rfl | rfl; exact .inl (by simp); exact .inr (by omega)),b,rfl,Nat.le_trans h.chg.size hE.2.1,hE.2.2⟩
end Go.Mq.Tree
namespace Go.Mq.Tree
open Go Go.RowKit Go.Mq
theorem s1 {a b:World} {bp bs':Nat} (h:Chg [bp] a b):Chg [bp,bs'] a b:=h.mono fun x hx=>.inl (by simp at hx; simp [hx])
theorem s2 {a b:World} {bp bs':Nat} (h:Chg [bs'] a b):Chg [bp,bs'] a b:=h.mono fun x hx=>.inl (by simp at hx; simp [hx])
theorem EndedS.thrown {α:Type} {w w2:World} {B bp bs' bt z en p:Nat} {V:World→α→Prop} {e:Ending} (h:EndedS w B bp bs' bt z (.bad en p:R α) V e w2) : ∃ b,e = .panicked [{ v:=.iface 91 (.agg #[.iface 167 (ptr b)]),recovered:=false }]:=by
 obtain ⟨_,b,he,_⟩:=h
 exact ⟨b,he⟩
theorem named_shape {z:Nat} {ex:Ps E} {ts r:List Tok} {e:E} (h : named z ex ts = .ok e r) : (∃ p m n,e = .var p m n)∨(∃ p m n i,e = .item p m n i)∨(∃ p m n l,e = .app p m n l):=by
 rw [named_eq] at h
 cases h1 : qual z ts with
 | bad en q=>rw [h1] at h; cases h
 | ok q r1=>
  rw [h1] at h
  simp only [namedR] at h
  split at h
  ·cases h2 : ex r1.tail with
   | bad en q=>rw [h2] at h; cases h
   | ok i r2=>
    simp only [h2] at h
    cases h3 : must z [93] r2 with
    | bad en q=>simp only [h3] at h; cases h
    | ok u r3=>simp only [h3] at h; cases h; exact .inr (.inl ⟨_,_,_,_,rfl⟩)
  ·split at h
   ·cases h2 : argsL z ex (r1.length + 1) true [] r1.tail with
    | bad en q=>simp only [h2] at h; cases h
    | ok l r2=>simp only [h2] at h; cases h; exact .inr (.inr ⟨_,_,_,_,rfl⟩)
   ·cases h; exact .inl ⟨_,_,_,rfl⟩
abbrev sCells (p:Nat):Array Value:=#[.int .i64 0,.int .i64 p,str [],nilp,nilp,nils,nils]
end Go.Mq.Tree
namespace Go.Proofs.YtojkkgghndeimaaGreatDoor
open Go Go.RowKit Go.Mq Go.Mq.Tree
set_option maxRecDepth 100000
set_option maxHeartbeats 8000000
end Go.Proofs.YtojkkgghndeimaaGreatDoor
namespace Go.Mq.Tree
open Go Go.RowKit Go.Mq
theorem bodies_rest (z d:Nat) (ts:List Tok) : (bodies z (d + 1)).2 ts=restL z (bodies z d).1 (bodies z d).2 ts:=rfl
end Go.Mq.Tree
namespace Go.Proofs.YtojkkgghndeimaaGreatDoor
open Go Go.RowKit Go.Mq Go.Mq.Tree
set_option maxRecDepth 100000
set_option maxHeartbeats 8000000
end Go.Proofs.YtojkkgghndeimaaGreatDoor
namespace Go.Mq.Tree
open Go Go.RowKit Go.Mq
theorem first_len {z p:Nat} {ts r:List Tok} {s:S} (h : first z p ts = .ok s r) : s.len=1:=by
 rw [first] at h
 repeat' (split at h)
 all_goals first | (cases h; rfl) | cases h | (rename_i h2; split at h2; all_goals first | cases h2 | (cases h; rfl))
theorem S.len_nil {s:S} (h : s.len=0) : s = .nil:=by
 cases s <;> first | rfl | (simp [S.len] at h)
theorem OptAt.ptr {w:World} {F:Nat→Prop} {i:Option E} {u:Value} (h:OptAt w F i u) : ∃ b,u = .pointer b:=by
 cases i with
 | none=>exact ⟨_,h⟩
 | some x=>obtain ⟨b,rfl⟩:=EAt.ptr h; exact ⟨_,rfl⟩
end Go.Mq.Tree
namespace Go.Proofs.YtojkkgghndeimaaGreatDoor
open Go Go.RowKit Go.Mq Go.Mq.Tree
set_option maxRecDepth 100000
set_option maxHeartbeats 16000000
abbrev SV (w:World):World→S→Value→Prop:=fun w' s v=>∃ cs,v = .agg cs.toArray∧cs.length=7∧SAt w' (New w w') s cs
theorem set7 {w:World} {b:Nat} (v0 v1 v2 v3 v4 v5 v6:Value) {u0 u1 u2 u3 u4 u5 u6:Value} {t:TypeId} (h:Blk w b #[u0,u1,u2,u3,u4,u5,u6] t) : ∃ wF,(((((((w.setCell ⟨b,0,none⟩ v0).setCell ⟨b,1,none⟩ v1).setCell ⟨b,2,none⟩ v2).setCell ⟨b,3,none⟩ v3).setCell ⟨b,4,none⟩ v4).setCell ⟨b,5,none⟩ v5).setCell ⟨b,6,none⟩ v6)=wF∧Chg [b] w wF∧Blk wF b #[v0,v1,v2,v3,v4,v5,v6] t:=
 ⟨_,rfl,((((((Chg.set1 _ _ _ _).then (Chg.set1 _ _ _ _)).then (Chg.set1 _ _ _ _)).then (Chg.set1 _ _ _ _)).then (Chg.set1 _ _ _ _)).then (Chg.set1 _ _ _ _)).then (Chg.set1 _ _ _ _),by
  have:=((((((h.set 0 v0).set 1 v1).set 2 v2).set 3 v3).set 4 v4).set 5 v5).set 6 v6
  simpa using this⟩
end Go.Proofs.YtojkkgghndeimaaGreatDoor
namespace Go.Mq.Tree
open Go Go.RowKit Go.Mq
theorem ex0_eats (z:Nat):Eats (ex0 z):=expr_eats (one_eats z 11) 5
theorem first_mono (z p:Nat):Mono (first z p):=by
 intro ts a r h
 rw [first] at h
 cases hn : named z (expr z (one z 10) 5) ts with
 | bad e q=>rw [hn] at h; cases h
 | ok e r1=>
  have g1:=named_eats (expr_eats (one_eats z 10) 5) _ _ _ hn
  rcases named_shape hn with ⟨q,m,n,rfl⟩ | ⟨q,m,n,i,rfl⟩ | ⟨q,m,n,l,rfl⟩
  ·simp only [hn] at h
   split at h
   ·cases h
   ·cases hm : must z [58,61] r1 with
    | bad e q=>simp only [hm] at h; cases h
    | ok u r2=>
     have g2:=must_len hm
     simp only [hm] at h
     cases hx : ex0 z r2 with
     | bad e q=>simp only [hx] at h; cases h
     | ok v r3=>
      have g3:=ex0_eats z _ _ _ hx
      simp only [hx] at h
      cases h
      omega
  ·simp only [hn] at h
   split at h
   ·cases h
   ·cases hm : must z [58,61] r1 with
    | bad e q=>simp only [hm] at h; cases h
    | ok u r2=>
     have g2:=must_len hm
     simp only [hm] at h
     cases hx : ex0 z r2 with
     | bad e q=>simp only [hx] at h; cases h
     | ok v r3=>
      have g3:=ex0_eats z _ _ _ hx
      simp only [hx] at h
      cases h
      omega
  ·simp only [hn] at h
   cases h
   omega
theorem restL_mono {z:Nat} {bd:Ps S} {more:Ps (E × S × S)} (hb:Mono bd) (hm:Mono more):Mono (restL z bd more):=by
 intro ts a r h
 rw [restL] at h
 cases h1 : ex0 z ts with
 | bad e q=>rw [h1] at h; cases h
 | ok v r1=>
  have g1:=ex0_eats z _ _ _ h1
  simp only [h1] at h
  cases h2 : must z [116,104,101,110] r1 with
  | bad e q=>simp only [h2] at h; cases h
  | ok u r2=>
   have g2:=must_len h2
   simp only [h2] at h
   cases h3 : bd r2 with
   | bad e q=>simp only [h3] at h; cases h
   | ok t r3=>
    have g3:=hb _ _ _ h3
    simp only [h3] at h
    split at h
    ·cases h4 : more r3.tail with
     | bad e q=>simp only [h4] at h; cases h
     | ok x r4=>
      have g4:=hm _ _ _ h4
      simp only [h4] at h
      cases h
      simp at g4; omega
    ·split at h
     ·cases h4 : bd r3.tail with
      | bad e q=>simp only [h4] at h; cases h
      | ok x r4=>
       have g4:=hb _ _ _ h4
       simp only [h4] at h
       cases h
       simp at g4; omega
     ·cases h; omega
theorem stmt_mono {z:Nat} {bd:Ps S} {rest:Ps (E × S × S)} (hb:Mono bd) (hr:Mono rest):Mono (stmt z bd rest):=by
 intro ts a r h
 have ht : ts.tail.length≤ts.length:=by simp
 rw [stmt] at h
 split at h
 ·cases h1 : rest ts.tail with
  | bad e q=>simp only [h1] at h; cases h
  | ok x r1=>
   have g1:=hr _ _ _ h1
   simp only [h1] at h
   cases h2 : must z [101,110,100] r1 with
   | bad e q=>simp only [h2] at h; cases h
   | ok u r2=>
    have g2:=must_len h2
    simp only [h2] at h
    cases h; omega
 ·split at h
  ·cases h1 : ex0 z ts.tail with
   | bad e q=>simp only [h1] at h; cases h
   | ok v r1=>
    have g1:=ex0_eats z _ _ _ h1
    simp only [h1] at h
    cases h2 : must z [100,111] r1 with
    | bad e q=>simp only [h2] at h; cases h
    | ok u r2=>
     have g2:=must_len h2
     simp only [h2] at h
     cases h3 : bd r2 with
     | bad e q=>simp only [h3] at h; cases h
     | ok t r3=>
      have g3:=hb _ _ _ h3
      simp only [h3] at h
      cases h4 : must z [101,110,100] r3 with
      | bad e q=>simp only [h4] at h; cases h
      | ok u r4=>
       have g4:=must_len h4
       simp only [h4] at h
       cases h; omega
  ·split at h
   ·cases h1 : ex0 z ts.tail with
    | bad e q=>simp only [h1] at h; cases h
    | ok v r1=>
     have g1:=ex0_eats z _ _ _ h1
     simp only [h1] at h
     cases h; omega
   ·split at h
    ·cases h1 : ex0 z ts.tail with
     | bad e q=>simp only [h1] at h; cases h
     | ok v r1=>
      have g1:=ex0_eats z _ _ _ h1
      simp only [h1] at h
      cases h; omega
    ·exact first_mono z _ _ _ _ h
theorem bodyL_mono {z:Nat} {st:Ps S} (hs:Mono st) : ∀ f l,Mono (bodyL z st f l):=by
 intro f
 induction f with
 | zero=>intro l ts a r h; cases h
 | succ f ih=>
  intro l ts a r h
  rw [bodyL] at h
  split at h
  ·cases h; exact Nat.le_refl _
  ·cases h1 : st ts with
   | bad e q=>rw [h1] at h; cases h
   | ok s r1=>
    have g1:=hs _ _ _ h1
    simp only [h1] at h
    cases h2 : must z [59] r1 with
    | bad e q=>simp only [h2] at h; cases h
    | ok u r2=>
     have g2:=must_len h2
     simp only [h2] at h
     have g3:=ih _ _ _ _ h
     omega
theorem bodies_mono (z:Nat) : ∀ d,Mono (bodies z d).1∧Mono (bodies z d).2:=by
 intro d
 induction d with
 | zero=>exact ⟨fun ts a r h=>(by cases h),fun ts a r h=>(by cases h)⟩
 | succ d ih=>exact ⟨fun ts a r h=>bodyL_mono (stmt_mono ih.1 (restL_mono ih.1 ih.2)) _ _ _ _ _ h,restL_mono ih.1 ih.2⟩
theorem stmt_len {z:Nat} {bd:Ps S} {rest:Ps (E × S × S)} {ts r:List Tok} {s:S} (h : stmt z bd rest ts = .ok s r) : s.len=1:=by
 rw [stmt] at h
 repeat' (split at h)
 all_goals first | (cases h; rfl) | cases h | exact first_len h | (rename_i h2; split at h2; all_goals first | cases h2 | (cases h; rfl))
end Go.Mq.Tree
namespace Go.Proofs.YtojkkgghndeimaaGreatDoor
open Go Go.RowKit Go.Mq Go.Mq.Tree
set_option maxRecDepth 100000
set_option maxHeartbeats 8000000
theorem infoStmt : (Tryz.prog.info? 138).map (fun i=>(i.zero,i.size,i.bytes))=some (some (.agg #[.int .i64 0,.int .i64 0,.string ⟨#[]⟩,.pointer none,.pointer none,.slice none 0 0,.slice none 0 0]),7,96):=by kernel_rfl
end Go.Proofs.YtojkkgghndeimaaGreatDoor
namespace Go.Proofs.YtojkkgghndeimaaGreatDoor
open Go Go.RowKit Go.Mq Go.Mq.Tree
set_option maxRecDepth 100000
set_option maxHeartbeats 8000000
theorem infoGlob : (Tryz.prog.info? 84).map (fun i=>(i.zero,i.size,i.bytes))=some (some (.agg #[.string ⟨#[]⟩,.int .i64 0,.int .i64 0,.bool false]),4,40):=by kernel_rfl
end Go.Proofs.YtojkkgghndeimaaGreatDoor
namespace Go.Mq.Tree
open Go Go.RowKit Go.Mq
theorem namesL_most {z most:Nat} : ∀ f l (ts:List Tok) a r,l.length≤most→namesL z most f l ts = .ok a r→a.length≤most:=by
 intro f
 induction f with
 | zero=>intro l ts a r _ h; cases h
 | succ f ih=>
  intro l ts a r hl h
  rw [namesL] at h
  split at h
  ·cases h
  ·rename_i hne
   cases hn : name z ts with
   | bad e q=>simp only [hn] at h; cases h
   | ok n r1=>
    simp only [hn] at h
    split at h
    ·exact ih _ _ _ _ (by simp; omega) h
    ·cases h; simp; omega
theorem names_most {z most:Nat} {ts r:List Tok} {l:List (List UInt8)} (h : names z most ts = .ok l r) : l.length≤most:=namesL_most _ _ _ _ _ (Nat.zero_le _) h
theorem sub_wrap {k:Nat} (h : k≤10):IntKind.i64.wrap (10 - (k:Int))=((10 - k:Nat):Int):=by
 simp only [IntKind.wrap,IntKind.bits,IntKind.signed]; simp; omega
theorem set6 {w:World} {b:Nat} (v0 v1 v2 v3 v4 v5:Value) {u0 u1 u2 u3 u4 u5:Value} {t:TypeId} (h:Blk w b #[u0,u1,u2,u3,u4,u5] t) : ∃ wF,((((((w.setCell ⟨b,0,none⟩ v0).setCell ⟨b,1,none⟩ v1).setCell ⟨b,2,none⟩ v2).setCell ⟨b,3,none⟩ v3).setCell ⟨b,4,none⟩ v4).setCell ⟨b,5,none⟩ v5)=wF∧Chg [b] w wF∧Blk wF b #[v0,v1,v2,v3,v4,v5] t:=
 ⟨_,rfl,(((((Chg.set1 _ _ _ _).then (Chg.set1 _ _ _ _)).then (Chg.set1 _ _ _ _)).then (Chg.set1 _ _ _ _)).then (Chg.set1 _ _ _ _)).then (Chg.set1 _ _ _ _),by
  have:=(((((h.set 0 v0).set 1 v1).set 2 v2).set 3 v3).set 4 v4).set 5 v5
  simpa using this⟩
end Go.Mq.Tree
namespace Go.Proofs.YtojkkgghndeimaaGreatDoor
open Go Go.RowKit Go.Mq Go.Mq.Tree
set_option maxRecDepth 100000
set_option maxHeartbeats 16000000
abbrev PV (w:World):World→Proc→Value→Prop:=fun w' x v=>∃ cs,v = .agg cs.toArray∧PrAt w' (New w w') x cs
end Go.Proofs.YtojkkgghndeimaaGreatDoor
namespace Go.Mq.Tree
open Go Go.RowKit Go.Mq
theorem set5 {w:World} {b:Nat} (v0 v1 v2 v3 v4:Value) {u0 u1 u2 u3 u4:Value} {t:TypeId} (h:Blk w b #[u0,u1,u2,u3,u4] t) : ∃ wF,(((((w.setCell ⟨b,0,none⟩ v0).setCell ⟨b,1,none⟩ v1).setCell ⟨b,2,none⟩ v2).setCell ⟨b,3,none⟩ v3).setCell ⟨b,4,none⟩ v4)=wF∧Chg [b] w wF∧Blk wF b #[v0,v1,v2,v3,v4] t:=
 ⟨_,rfl,((((Chg.set1 _ _ _ _).then (Chg.set1 _ _ _ _)).then (Chg.set1 _ _ _ _)).then (Chg.set1 _ _ _ _)).then (Chg.set1 _ _ _ _),by
  have:=((((h.set 0 v0).set 1 v1).set 2 v2).set 3 v3).set 4 v4
  simpa using this⟩
end Go.Mq.Tree
namespace Go.Proofs.YtojkkgghndeimaaGreatDoor
open Go Go.RowKit Go.Mq Go.Mq.Tree
set_option maxRecDepth 100000
set_option maxHeartbeats 16000000
theorem infoProc : (Tryz.prog.info? 87).map (fun i=>(i.zero,i.size,i.bytes))=some (some (.agg #[.string ⟨#[]⟩,.int .i64 0,.bool false,.slice none 0 0,.slice none 0 0,.slice none 0 0]),6,104):=by kernel_rfl
end Go.Proofs.YtojkkgghndeimaaGreatDoor
namespace Go.Proofs.YtojkkgghndeimaaGreatDoor
open Go Go.RowKit Go.Mq Go.Mq.Tree
set_option maxRecDepth 100000
set_option maxHeartbeats 4000000
end Go.Proofs.YtojkkgghndeimaaGreatDoor
namespace Go.Mq.Tree
open Go Go.RowKit Go.Mq
theorem nextK_letter {c:UInt8} {t:List UInt8} (h : letter c=true) : nextK (c :: t)=(.word,howN (fun c=>letter c || digit c) (c :: t)):=by rw [nextK,if_pos h]
theorem nextK_digit {c:UInt8} {t:List UInt8} (h : letter c=false) (h2 : digit c=true) : nextK (c :: t)=(.number,howN digit (c :: t)):=by rw [nextK,if_neg (by simp [h]),if_pos h2]
end Go.Mq.Tree
namespace Go.Proofs.YtojkkgghndeimaaGreatDoor
open Go Go.RowKit Go.Mq Go.Mq.Tree
set_option maxRecDepth 100000
set_option maxHeartbeats 4000000
end Go.Proofs.YtojkkgghndeimaaGreatDoor
namespace Go.Mq.Tree
open Go Go.RowKit Go.Mq
theorem gap_eq (c:UInt8) : gap c=(((c.toNat:Int) == 32) || ((c.toNat:Int) == 10)):=by
 have h1 : (c == 32)=((c.toNat:Int) == 32):=by
  by_cases h : c=32
  ·subst h; rfl
  ·have : c.toNat≠32:=fun h2=>h (UInt8.toNat_inj.1 (by rw [h2]; rfl))
   rw [beq_eq_false_iff_ne.2 h]
   symm
   simp; omega
 have h2 : (c == 10)=((c.toNat:Int) == 10):=by
  by_cases h : c=10
  ·subst h; rfl
  ·have : c.toNat≠10:=fun h2=>h (UInt8.toNat_inj.1 (by rw [h2]; rfl))
   rw [beq_eq_false_iff_ne.2 h]
   symm
   simp; omega
 rw [gap,h1,h2]
def LexR.ahead (acc:List Tok):LexR→LexR
 | .ok ts=>.ok (acc ++ ts)
 | .bad e p=>.bad e p
theorem lexL_nil (f i k:Nat) : lexL f i k [] = .ok []:=by cases f <;> rfl
theorem lexL_gap {f i k:Nat} {c:UInt8} {t:List UInt8} (h : gap c=true) : lexL (f + 1) i k (c :: t)=lexL f (i + 1) k t:=by simp only [lexL,h,if_true]
theorem lexL_none {f i k:Nat} {c:UInt8} {t:List UInt8} (h : gap c=false) (h2 : (nextK (c :: t)).2=0) : lexL (f + 1) i k (c :: t) = .bad 3 i:=by simp [lexL,h,h2]
theorem lexL_many {f i:Nat} {c:UInt8} {t:List UInt8} (h : gap c=false) (h2 : (nextK (c :: t)).2≠0) : lexL (f + 1) i 600 (c :: t) = .bad 4 i:=by simp [lexL,h,h2]
theorem lexL_tok {f i k:Nat} {c:UInt8} {t:List UInt8} (h : gap c=false) (h2 : (nextK (c :: t)).2≠0) (h3 : k≠600) (acc:List Tok) :
  (lexL (f + 1) i k (c :: t)).ahead acc=(lexL f (i + (nextK (c :: t)).2) (k + 1) ((c :: t).drop (nextK (c :: t)).2)).ahead (acc ++ [⟨(nextK (c :: t)).1,(c :: t).take (nextK (c :: t)).2,i⟩]):=by
 simp only [lexL,h,h2,h3,if_false,Bool.false_eq_true]
 cases lexL f (i + (nextK (c :: t)).2) (k + 1) ((c :: t).drop (nextK (c :: t)).2) with
 | ok ts=>simp [LexR.ahead]
 | bad e p=>rfl
theorem toksCells_eq (z:Nat) : ∀ ts:List Tok,toksCells z ts=ts.flatMap Tok.cells ++ [.int .i64 4,str [],.int .i64 z]:=by
 intro ts
 induction ts with
 | nil=>rfl
 | cons t r ih=>rw [toksCells,ih,List.flatMap_cons,List.append_assoc]
end Go.Mq.Tree
namespace Go.Proofs.YtojkkgghndeimaaGreatDoor
open Go Go.RowKit Go.Mq Go.Mq.Tree
set_option maxRecDepth 100000
set_option maxHeartbeats 8000000
end Go.Proofs.YtojkkgghndeimaaGreatDoor
namespace Go.Proofs.YtojkkgghndeimaaGreatDoor
open Go Go.RowKit Go.Mq Go.Mq.Tree
set_option maxRecDepth 100000
set_option maxHeartbeats 8000000
end Go.Proofs.YtojkkgghndeimaaGreatDoor
namespace Go.Mq.Tree
open Go Go.RowKit Go.Mq
end Go.Mq.Tree
namespace Go.Proofs.YtojkkgghndeimaaGreatDoor
open Go Go.RowKit Go.Mq Go.Mq.Tree
set_option maxRecDepth 100000
set_option maxHeartbeats 1000000
end Go.Proofs.YtojkkgghndeimaaGreatDoor
