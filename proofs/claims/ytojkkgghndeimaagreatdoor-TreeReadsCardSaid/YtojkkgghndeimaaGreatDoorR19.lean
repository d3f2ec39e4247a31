/- Some texts in one. -/
import Derived.Test.YtojkkgghndeimaaGreatDoorR14
namespace Go.Mq.Tree
open Go Go.RowKit Go.Mq
def E.strip:E→E
 | .num _ n=>.num 0 n
 | .var _ m n=>.var 0 m n
 | .item _ m n i=>.item 0 m n i.strip
 | .un _ op x=>.un 0 op x.strip
 | .bin _ op x y=>.bin 0 op x.strip y.strip
 | .app _ m n l=>.app 0 m n l.strip
 | .nil=>.nil
 | .cons x r=>.cons x.strip r.strip
def Beg:List (List UInt8)→List Tok→List Tok→Prop
 | [],ts,r=>ts=r
 | s :: K,ts,r=>∃ p ts',ts=⟨kindT s,s,p⟩ :: ts'∧Beg K ts' r
theorem beg_append : ∀ (K L:List (List UInt8)) {ts r:List Tok},Beg (K ++ L) ts r → ∃ m,Beg K ts m∧Beg L m r
 | [],_,ts,_,h=>⟨ts,rfl,h⟩
 | _ :: K,L,_,_,h=>by
  obtain ⟨p,ts',rfl,h⟩:=h
  obtain ⟨m,h1,h2⟩:=beg_append K L h
  exact ⟨m,⟨p,ts',rfl,h1⟩,h2⟩
theorem beg_are : ∀ (K:List (List UInt8)) (ts:List Tok),Are ts K→Beg K ts []
 | [],ts,h=>by
  have:=h.1
  cases ts with
  | nil=>rfl
  | cons _ _=>simp at this
 | s :: K,[],h=>by have:=h.1; simp at this
 | s :: K,t :: ts,h=>by
  have h1:=h.1
  simp only [List.map_cons,List.cons.injEq] at h1
  have h2:=h.2 t (by simp)
  refine ⟨t.pos,ts,?_,beg_are K ts ⟨h1.2,fun x hx=>h.2 x (by simp [hx])⟩⟩
  obtain ⟨k,s',p⟩:=t
  simp only at h1 h2
  rw [h2,h1.1]
theorem beg_len : ∀ (K:List (List UInt8)) {ts r:List Tok},Beg K ts r→ts.length=K.length + r.length
 | [],_,_,h=>by rw [show _=_ from h]; simp
 | _ :: K,_,_,h=>by
  obtain ⟨p,ts',rfl,h⟩:=h
  have:=beg_len K h
  simp only [List.length_cons]; omega
theorem dec_digits : ∀ u:Nat,(∀ x∈Lib.decDigits u,digit x=true)∧Lib.decDigits u≠[]:=by
 intro u
 induction u using Nat.strongRecOn with
 | _ u ih=>
  have hd : ∀ v,v < 10→digit (UInt8.ofNat (48 + v))=true:=by decide
  rw [Lib.decDigits]
  split
  ·rename_i h; exact ⟨by simpa using hd u h,by simp⟩
  ·refine ⟨?_,by simp⟩
   intro x hx
   rcases List.mem_append.mp hx with hx | hx
   ·exact (ih (u / 10) (by omega)).1 x hx
   ·rw [List.mem_singleton] at hx; subst hx; exact hd _ (by omega)
theorem num_append {M:Nat} : ∀ (l r:List UInt8) (acc a:Nat),Lib.parseUintM M acc l = .ok a→Lib.parseUintM M acc (l ++ r)=Lib.parseUintM M a r
 | [],r,acc,a,h=>by cases h; rfl
 | c :: l,r,acc,a,h=>by
  rw [List.cons_append,Lib.parseUintM]
  rw [Lib.parseUintM] at h
  split at h
  ·rename_i h1
   rw [if_pos h1]
   split at h
   ·cases h
   ·rename_i h2
    rw [if_neg h2]
    split at h
    ·cases h
    ·rename_i h3
     rw [if_neg h3]
     exact num_append l r _ _ h
  ·cases h
theorem dec_parse {M:Nat} (hM:M≤18446744073709551615) : ∀ u:Nat,u≤M→Lib.parseUintM M 0 (Lib.decDigits u) = .ok u:=by
 intro u
 induction u using Nat.strongRecOn with
 | _ u ih=>
  intro hu
  have one : ∀ acc v,v < 10→acc * 10 + v≤M→Lib.parseUintM M acc [UInt8.ofNat (48 + v)] = .ok (acc * 10 + v):=by
   intro acc v hv ha
   have hn : (UInt8.ofNat (48 + v)).toNat=48 + v:=by rw [UInt8.toNat_ofNat']; omega
   rw [Lib.parseUintM,hn,if_pos (by omega),if_neg (by omega),if_neg (by omega),Lib.parseUintM]
   congr 1; omega
  rw [Lib.decDigits]
  split
  ·rename_i h
   have:=one 0 u h (by omega)
   simpa using this
  ·rename_i h
   rw [num_append _ _ _ _ (ih (u / 10) (by omega) (by omega)),one _ _ (by omega) (by omega)]
   congr 1; omega
theorem itoa_num {n:Int} (h : 0≤n):IsNum (Lib.itoa n):=by
 rw [Lib.itoa,if_neg (by omega)]
 have:=dec_digits n.toNat
 cases hd:Lib.decDigits n.toNat with
 | nil=>exact absurd hd this.2
 | cons c r=>
  rw [hd] at this
  exact ⟨c,r,rfl,this.1 c (by simp),fun x hx=>this.1 x (by simp [hx])⟩
theorem itoa_parse {n:Int} (h : 0≤n) (h2 : n≤9223372036854775807):Lib.parseIntB 64 (Lib.itoa n) = .ok n:=by
 obtain ⟨c,r,hc,hd,_⟩:=itoa_num h
 have hp:Lib.parseUintM 18446744073709551615 0 (Lib.itoa n) = .ok n.toNat:=by
  rw [Lib.itoa,if_neg (by omega)]; exact dec_parse (Nat.le_refl _) _ (by omega)
 rw [hc] at hp ⊢
 have hd:=digit_val hd
 have e : (c.toNat=45)=False:=by simp; omega
 have e2 : (c.toNat=43)=False:=by simp; omega
 unfold Lib.parseIntB
 simp only [e,e2,or_self,if_false,not_false_eq_true,true_and,false_and,Lib.parseUintB]
 rw [if_neg (by simp),show 2 ^ 64 - 1=18446744073709551615 from rfl,hp]
 simp only
 rw [if_neg (by omega)]
 congr 1; omega
theorem number_rt {z:Nat} {most n:Int} (h : 0≤n) (h1 : n≤most) (h2 : n≤9223372036854775807) {ts r:List Tok} (hb:Beg [Lib.itoa n] ts r) : number z most ts = .ok n r:=by
 obtain ⟨p,ts',rfl,hb⟩:=hb
 cases hb
 rw [number]
 simp only [kind_num (itoa_num h),ne_eq,not_true_eq_false,if_false,itoa_parse h h2]
 rw [if_neg (by omega)]
theorem nm_kind {n:List UInt8} (h:Nm n) : kindT n = .word:=kind_word h.1
theorem nm_ne {n s:List UInt8} (h:Nm n) (hs : kept s=true∨kindT s = .mark) : (n == s)=false:=by
 rw [beq_eq_false_iff_ne]
 rintro rfl
 rcases hs with hs | hs
 ·rw [h.2.1] at hs; cases hs
 ·rw [nm_kind h] at hs; cases hs
theorem num_ne {n:Int} (h : 0≤n) {s:List UInt8} (hs : kindT s ≠ .number) : (Lib.itoa n == s)=false:=by
 rw [beq_eq_false_iff_ne]
 intro he
 rw [← he,kind_num (itoa_num h)] at hs
 exact hs rfl
theorem see_cons (s t:List UInt8) (k:Kind) (p:Nat) (r:List Tok) : see s (⟨k,t,p⟩ :: r)=(t == s):=rfl
theorem name_rt {z:Nat} {n:List UInt8} (h:Nm n) {ts r:List Tok} (hb:Beg [n] ts r) : name z ts = .ok n r:=by
 obtain ⟨p,ts',rfl,hb⟩:=hb
 cases hb
 rw [name]
 simp only [nm_kind h,h.2.1,ne_eq,not_true_eq_false,Bool.false_eq_true,or_self,if_false]
 rw [if_neg (by have:=h.2.2; omega)]
theorem must_rt {z:Nat} {s:List UInt8} {ts r:List Tok} (hb:Beg [s] ts r) : must z s ts = .ok () r:=by
 obtain ⟨p,ts',rfl,hb⟩:=hb
 cases hb
 rw [must,see_cons,if_pos (beq_self_eq_true s)]; rfl
theorem see_beg {s:List UInt8} {K:List (List UInt8)} {ts r:List Tok} (hb:Beg (s :: K) ts r) (t:List UInt8) : see t ts=(s == t)∧Beg K ts.tail r:=by
 obtain ⟨p,ts',rfl,hb⟩:=hb
 exact ⟨rfl,hb⟩
def Fol (k:Nat) (r:List Tok):Prop:=see [46] r=false∧see [91] r=false∧see [40] r=false ∧ ∀ j,j < k→opOf (levels.getD (4 - j) []) r=none
theorem fol_mono {a b:Nat} (h : a≤b) {r:List Tok} (hf:Fol b r):Fol a r:=⟨hf.1,hf.2.1,hf.2.2.1,fun j hj=>hf.2.2.2 j (by omega)⟩
def stopsK:List (List UInt8):=[[93],[41],[44],[59],[116,104,101,110],[100,111],[58,61]]
theorem stops_ok : ∀ s∈stopsK,(s == [46])=false∧(s == [91])=false∧(s == [40])=false ∧ ∀ j < 5,(levels.getD (4 - j) []).find? (fun m=>s == m)=none:=by decide
theorem ops_ok : ∀ k < 5,∀ op∈levels.getD (4 - k) [],(op == [46])=false∧(op == [91])=false∧(op == [40])=false∧(∀ j < k,(levels.getD (4 - j) []).find? (fun m=>op == m)=none)∧(levels.getD (4 - k) []).find? (fun m=>op == m)=some op:=by decide
theorem fol_stop {s:List UInt8} (hs : s∈stopsK) {K:List (List UInt8)} {ts r:List Tok} (hb:Beg (s :: K) ts r):Fol 5 ts:=by
 obtain ⟨p,ts',rfl,_⟩:=hb
 have:=stops_ok s hs
 exact ⟨this.1,this.2.1,this.2.2.1,this.2.2.2⟩
def PX (z d k:Nat) (K:List (List UInt8)) (x:E):Prop:=∀ ts r,Beg K ts r→Fol k r → ∃ x',x'.strip=x.strip∧expr z (one z d) k ts = .ok x' r
def QX (z d k:Nat) (K:List (List UInt8)) (x:E):Prop:=∀ ts r,Beg K ts r→Fol k r → ∃ x' f,x'.strip=x.strip∧r.length < f∧expr z (one z d) (k + 1) ts=binL (expr z (one z d) k) (levels.getD (4 - k) []) (hd z ts) f x' r
theorem px_q {z d k:Nat} {K:List (List UInt8)} {x:E} (h:PX z d k K x):QX z d k K x:=by
 intro ts r hb hf
 obtain ⟨x',h1,h2⟩:=h ts r hb hf
 exact ⟨x',r.length + 1,h1,Nat.lt_succ_self _,by simp only [expr,h2]⟩
theorem qx_p {z d k:Nat} {K:List (List UInt8)} {x:E} (h:QX z d k K x):PX z d (k + 1) K x:=by
 intro ts r hb hf
 obtain ⟨x',f,h1,h2,h3⟩:=h ts r hb (fol_mono (Nat.le_succ _) hf)
 refine ⟨x',h1,?_⟩
 rw [h3]
 cases f with
 | zero=>omega
 | succ f=>rw [binL,hf.2.2.2 k (Nat.lt_succ_self _)]
theorem px_up {z d a:Nat} {K:List (List UInt8)} {x:E} (h:PX z d a K x) : ∀ b,a≤b→PX z d b K x:=by
 intro b hb
 induction b with
 | zero=>rw [Nat.le_zero.mp hb] at h; exact h
 | succ b ih=>
  rcases Nat.lt_or_ge a (b + 1) with h1 | h1
  ·exact qx_p (px_q (ih (by omega)))
  ·rw [show b + 1=a by omega]; exact h
def RT (z:Nat) (x:E):Prop:=(∀ d k,k≤5→needW (5 - k) x (need x)≤d→PX z d k (withinK (5 - k) x (toks x)) x) ∧ ∀ d k,k < 5→needW (4 - k) x (need x)≤d→QX z d k (withinK (4 - k) x (toks x)) x
theorem bracket {z d:Nat} {K:List (List UInt8)} {x:E} (h:PX z d 5 K x):PX z (d + 1) 0 ([40] :: (K ++ [[41]])) x:=by
 intro ts r hb _
 obtain ⟨p,ts',rfl,hb⟩:=hb
 obtain ⟨m,h1,h2⟩:=beg_append _ _ hb
 obtain ⟨x',e1,e2⟩:=h _ _ h1 (fol_stop (by decide) h2)
 refine ⟨x',e1,?_⟩
 rw [expr,one]
 simp only [see_cons,List.tail_cons]
 rw [if_neg (by decide),if_neg (by decide),if_pos (by decide),e2]
 simp only [must_rt h2]
theorem rt_of {z:Nat} {x:E} (h : (∃ k,k < 5∧lvl x=4 - k ∧ ∀ d,need x≤d→QX z d k (toks x) x)∨(lvl x=5 ∧ ∀ d,need x≤d→PX z d 0 (toks x) x)):RT z x:=by
 have plain : ∀ d k,k≤5→5 - k≤lvl x→need x≤d→PX z d k (toks x) x:=by
  intro d k hk hl hd
  rcases h with ⟨j,hj,h1,h2⟩ | ⟨h1,h2⟩
  ·exact px_up (qx_p (h2 d hd)) k (by omega)
  ·exact px_up (h2 d hd) k (Nat.zero_le _)
 have all : ∀ d k,k≤5 → ∀ lv,(lv≤lvl x→5 - k≤lvl x)→needW lv x (need x)≤d→PX z d k (withinK lv x (toks x)) x:=by
  intro d k hk lv hl hd
  rw [needW] at hd
  rw [withinK]
  split at hd
  ·rename_i h1
   rw [if_pos h1]
   exact plain d k hk (hl h1) hd
  ·rename_i h1
   rw [if_neg h1]
   cases d with
   | zero=>omega
   | succ d=>exact px_up (bracket (plain d 5 (Nat.le_refl _) (Nat.zero_le _) (by omega))) k (Nat.zero_le _)
 refine ⟨fun d k hk hd=>all d k hk _ id hd,?_⟩
 intro d k hk hd
 by_cases hl : lvl x=4 - k
 ·rcases h with ⟨j,hj,h1,h2⟩ | ⟨h1,h2⟩
  ·have : j=k:=by omega
   subst this
   rw [needW,if_pos (by omega)] at hd
   rw [withinK,if_pos (by omega)]
   exact h2 d hd
  ·omega
 ·exact px_q (all d k (by omega) _ (by omega) hd)
theorem rt0 {z d:Nat} {x:E} (h:RT z x) (hd : need x≤d):PX z d 5 (toks x) x:=by
 have:=h.1 d 5 (Nat.le_refl _) (by rw [needW,if_pos (Nat.zero_le _)]; exact hd)
 rwa [withinK,if_pos (Nat.zero_le _)] at this
theorem op_mem {k:Nat} (hk : k < 5) {op:List UInt8} (ho : op∈levels.getD (4 - k) []) {K:List (List UInt8)} {ts r:List Tok} (hb:Beg (op :: K) ts r):Fol k ts∧opOf (levels.getD (4 - k) []) ts=some op∧Beg K ts.tail r:=by
 obtain ⟨p,ts',rfl,hb⟩:=hb
 have:=ops_ok k hk op ho
 exact ⟨⟨this.1,this.2.1,this.2.2.1,this.2.2.2.1⟩,this.2.2.2.2,hb⟩
theorem bin_rt {z:Nat} {p:Nat} {op:List UInt8} {x y:E} (ho : ∃ k,k < 5∧op∈levels.getD (4 - k) []) (hx:RT z x) (hy:RT z y):RT z (.bin p op x y):=by
 obtain ⟨k,hk,ho⟩:=ho
 have hl:=op_level k hk op ho
 refine rt_of (.inl ⟨k,hk,hl,?_⟩)
 intro d hn ts r hb hf
 rw [need,hl] at hn
 rw [toks,hl] at hb
 obtain ⟨m,h1,h2⟩:=beg_append _ _ hb
 obtain ⟨f1,f2,f3⟩:=op_mem hk ho h2
 obtain ⟨x',f,e1,e2,e3⟩:=hx.2 d k hk (by omega) _ _ h1 f1
 have hl2:=beg_len _ h2
 have e5 : 4 - k + 1=5 - k:=by omega
 rw [e5] at hn f3
 obtain ⟨y',g1,g2⟩:=hy.1 d k (by omega) (by omega) _ _ f3 hf
 simp only [List.length_cons] at hl2
 cases f with
 | zero=>omega
 | succ f=>
  refine ⟨.bin (hd z ts) op x' y',f,by simp only [E.strip,e1,g1],by omega,?_⟩
  rw [e3,binL,f2]
  simp only [g2]
theorem qual_rt {z:Nat} {m n:List UInt8} (hm:Qm m) (hn:Nm n) {ts r:List Tok} (hb:Beg (qualK m n) ts r) (hf : see [46] r=false) : qual z ts = .ok (m,n) r:=by
 rw [qualK] at hb
 rw [qual]
 split at hb
 ·rename_i h; subst h
  rw [name_rt hn hb]
  simp only [hf,Bool.false_eq_true,if_false]
 ·rename_i h
  have hm:Nm m:=hm.resolve_left h
  obtain ⟨a,h1,h2⟩:=beg_append [m] [[46],n] hb
  have h3:=see_beg h2 [46]
  rw [name_rt hm h1]
  simp only
  rw [if_pos (by rw [h3.1]; decide),name_rt hn h3.2]
def NX (z d:Nat) (x:E):Prop:=∀ ts r,Beg (toks x) ts r→Fol 0 r → ∃ x',x'.strip=x.strip∧named z (expr z (one z d) 5) ts = .ok x' r
def sepK:E→List (List UInt8)
 | .cons x r=>[44] :: (toks x ++ sepK r)
 | _=>[]
theorem toks_sep : ∀ (r x:E),WF (.cons x r)→toks (.cons x r)=toks x ++ sepK r
 | .nil,x,_=>by simp [toks,sepK]
 | .cons y r,x,h=>by
  rw [toks,sepK,toks_sep r y h.2.1]
  intro h; cases h
 | .num _ _,_,h=>h.2.2.elim
 | .var _ _ _,_,h=>h.2.2.elim
 | .item _ _ _ _,_,h=>h.2.2.elim
 | .un _ _ _,_,h=>h.2.2.elim
 | .bin _ _ _ _,_,h=>h.2.2.elim
 | .app _ _ _ _,_,h=>h.2.2.elim
def AX (z d:Nat) (l:E):Prop:=∀ first acc f ts r,Beg ((if first then toks l else sepK l) ++ [[41]]) ts r→ts.length < f → ∃ l',(E.ofList l').strip=l.strip∧argsL z (expr z (one z d) 5) f first acc ts = .ok (acc ++ l') r
theorem var_rt {z d p:Nat} {m n:List UInt8} (hm:Qm m) (hn:Nm n):NX z d (.var p m n):=by
 intro ts r hb hf
 rw [toks] at hb
 refine ⟨.var (hd z ts) m n,rfl,?_⟩
 rw [named,qual_rt hm hn hb hf.1]
 simp only [hf.2.1,hf.2.2.1,Bool.false_eq_true,if_false]
theorem item_rt {z d p:Nat} {m n:List UInt8} {i:E} (hm:Qm m) (hn:Nm n) (hi:RT z i) (hd : need i≤d):NX z d (.item p m n i):=by
 intro ts r hb hf
 rw [toks] at hb
 obtain ⟨a,h1,h2⟩:=beg_append _ _ hb
 have h3:=see_beg h2
 obtain ⟨b,h4,h5⟩:=beg_append _ _ (h3 []).2
 obtain ⟨i',e1,e2⟩:=rt0 hi hd _ _ h4 (fol_stop (by decide) h5)
 refine ⟨.item (Tree.hd z ts) m n i',by simp only [E.strip,e1],?_⟩
 rw [named,qual_rt hm hn h1 (by rw [(h3 _).1]; decide)]
 simp only
 rw [if_pos (by rw [(h3 _).1]; decide),e2]
 simp only [must_rt h5]
theorem app_rt {z d p:Nat} {m n:List UInt8} {l:E} (hm:Qm m) (hn:Nm n) (hl:AX z d l):NX z d (.app p m n l):=by
 intro ts r hb hf
 rw [toks] at hb
 obtain ⟨a,h1,h2⟩:=beg_append _ _ hb
 have h3:=see_beg h2
 have hlen : a.tail.length < a.length + 1:=by simp; omega
 obtain ⟨l',e1,e2⟩:=hl true [] (a.length + 1) _ _ (h3 []).2 hlen
 refine ⟨.app (Tree.hd z ts) m n (E.ofList l'),by simp only [E.strip,e1],?_⟩
 rw [named,qual_rt hm hn h1 (by rw [(h3 _).1]; decide)]
 simp only
 rw [if_neg (by rw [(h3 _).1]; decide),if_pos (by rw [(h3 _).1]; decide),e2]
 rfl
def HeadE (s:List UInt8):Prop:=s=[45]∨s=[110,111,116]∨s=[40]∨kindT s = .number∨Nm s
theorem head_qual {m n:List UInt8} (hm:Qm m) (hn:Nm n) (K:List (List UInt8)) : ∃ s L,qualK m n ++ K=s :: L∧Nm s:=by
 rw [qualK]
 split
 ·exact ⟨n,K,rfl,hn⟩
 ·rename_i h; exact ⟨m,_,rfl,hm.resolve_left h⟩
theorem head_within {lv:Nat} {x:E} (h : ∃ s L,toks x=s :: L∧HeadE s) : ∃ s L,withinK lv x (toks x)=s :: L∧HeadE s:=by
 rw [withinK]
 split
 ·exact h
 ·exact ⟨_,_,rfl,.inr (.inr (.inl rfl))⟩
theorem head_toks : ∀ (x:E),WF x→x.isX → ∃ s L,toks x=s :: L∧HeadE s
 | .num _ n,h,_=>⟨_,_,rfl,.inr (.inr (.inr (.inl (kind_num (itoa_num h.1)))))⟩
 | .var _ m n,h,_=>by
  obtain ⟨s,L,h1,h2⟩:=head_qual h.1 h.2 []
  exact ⟨s,L,by rw [toks,← h1,List.append_nil],.inr (.inr (.inr (.inr h2)))⟩
 | .item _ m n i,h,_=>by
  obtain ⟨s,L,h1,h2⟩:=head_qual h.1 h.2.1 ([91] :: (toks i ++ [[93]]))
  exact ⟨s,L,by rw [toks,h1],.inr (.inr (.inr (.inr h2)))⟩
 | .un _ op x,h,_=>⟨op,_,rfl,h.1.elim .inl fun h=>.inr (.inl h)⟩
 | .bin _ op x y,h,_=>by
  obtain ⟨s,L,h1,h2⟩:=head_within (lv:=opLevel op) (head_toks x h.2.1.1 h.2.1.2)
  exact ⟨s,_,by rw [toks,h1]; rfl,h2⟩
 | .app _ m n l,h,_=>by
  obtain ⟨s,L,h1,h2⟩:=head_qual h.1 h.2.1 ([40] :: (toks l ++ [[41]]))
  exact ⟨s,L,by rw [toks,h1],.inr (.inr (.inr (.inr h2)))⟩
 | .nil,_,h=>h.elim
 | .cons _ _,_,h=>h.elim
theorem head_ne {s:List UInt8} (h:HeadE s) {t:List UInt8} (ht : (kept t=true∨kindT t = .mark)∧kindT t ≠ .number∧t≠[45]∧t≠[110,111,116]∧t≠[40]) : (s == t)=false:=by
 rcases h with h | h | h | h | h
 ·subst h; rw [beq_eq_false_iff_ne]; exact fun e=>ht.2.2.1 e.symm
 ·subst h; rw [beq_eq_false_iff_ne]; exact fun e=>ht.2.2.2.1 e.symm
 ·subst h; rw [beq_eq_false_iff_ne]; exact fun e=>ht.2.2.2.2 e.symm
 ·rw [beq_eq_false_iff_ne]; rintro rfl; exact ht.2.1 h
 ·exact nm_ne h ht.1
theorem args_nil {z d:Nat} : AX z d .nil:=by
 intro first acc f ts r hb hf
 have hb:Beg [[41]] ts r:=by cases first <;> exact hb
 cases f with
 | zero=>omega
 | succ f=>
  have h:=see_beg hb
  refine ⟨[],rfl,?_⟩
  rw [argsL,if_pos (by rw [(h _).1]; decide),List.append_nil]
  have h2 : ts.tail=r:=(h []).2
  rw [h2]
theorem args_cons {z d:Nat} {x l:E} (hc:WF (.cons x l)) (hx:RT z x) (hd : need x≤d) (hr:AX z d l):AX z d (.cons x l):=by
 intro first acc f ts r hb hf
 have hw:=hc.1
 have hl:=hc.2.2
 obtain ⟨s,L,hs,hh⟩:=head_toks x hw.1 hw.2
 cases f with
 | zero=>omega
 | succ f=>
  have pre : see [41] ts=false∧(first=false→see [44] ts=true)∧Beg (toks x ++ (sepK l ++ [[41]])) (if first then ts else ts.tail) r∧(if first then ts else ts.tail).length≤ts.length:=by
   cases first with
   | true=>
    simp only [if_true,toks_sep l x hc,List.append_assoc] at hb ⊢
    refine ⟨?_,by simp,hb,Nat.le_refl _⟩
    rw [hs] at hb
    rw [(see_beg hb _).1]
    exact head_ne hh (by decide)
   | false=>
    simp only [Bool.false_eq_true,if_false,sepK,List.cons_append,List.append_assoc] at hb ⊢
    refine ⟨by rw [(see_beg hb _).1]; decide,fun _=>by rw [(see_beg hb _).1]; decide,(see_beg hb []).2,by simp⟩
  obtain ⟨p1,p2,p3,p4⟩:=pre
  obtain ⟨m,h1,h2⟩:=beg_append _ _ p3
  have hf2:Fol 5 m:=by
   cases l with
   | nil=>exact fol_stop (s:=[41]) (by decide) h2
   | cons y l=>exact fol_stop (s:=[44]) (by decide) h2
   | _=>exact hl.elim
  obtain ⟨x',e1,e2⟩:=rt0 hx hd _ _ h1 hf2
  have hlen:=beg_len _ h1
  obtain ⟨l',g1,g2⟩:=hr false (acc ++ [x']) f m r (by simpa using h2) (by rw [hs] at hlen; simp only [List.length_cons] at hlen; omega)
  refine ⟨x' :: l',by simp only [E.ofList,E.strip,e1,g1],?_⟩
  rw [argsL,if_neg (by rw [p1]; decide),if_neg (by rintro ⟨q1,q2⟩; rw [p2 q1] at q2; cases q2),e2]
  simp only [g2,List.append_assoc,List.cons_append,List.nil_append]
theorem top_rt {z:Nat} {x:E} (hl : lvl x=5) (h : ∀ d ts r,need x≤d + 1→Beg (toks x) ts r→Fol 0 r → ∃ x',x'.strip=x.strip∧one z (d + 1) ts = .ok x' r) (hn : 1≤need x):RT z x:=by
 refine rt_of (.inr ⟨hl,?_⟩)
 intro d hd ts r hb hf
 cases d with
 | zero=>omega
 | succ d=>exact h d ts r hd hb hf
theorem one_named {z d:Nat} {s:List UInt8} (hs:Nm s) {K:List (List UInt8)} {ts r:List Tok} (hb:Beg (s :: K) ts r) : one z (d + 1) ts=named z (expr z (one z d) 5) ts:=by
 obtain ⟨p,ts',rfl,_⟩:=hb
 rw [one]
 simp only [see_cons,nm_ne hs (s:=[45]) (by decide),nm_ne hs (s:=[110,111,116]) (by decide),nm_ne hs (s:=[40]) (by decide),Bool.false_eq_true,if_false,nm_kind hs]
 rfl
theorem rt_all (z:Nat) : ∀ x:E,WF x→(x.isX→RT z x)∧(x.isL → ∀ d,need x≤d→AX z d x)
 | .num q n,h=>by
  refine ⟨fun _=>top_rt rfl ?_ (by simp [need]),fun h=>h.elim⟩
  intro d ts r _ hb _
  rw [toks] at hb
  have hn:=number_rt (z:=z) h.1 h.2 h.2 hb
  obtain ⟨p,ts',rfl,hb⟩:=hb
  rw [kind_num (itoa_num h.1)] at hn ⊢
  refine ⟨.num p n,rfl,?_⟩
  rw [one]
  simp only [see_cons,num_ne h.1 (s:=[45]) (by decide),num_ne h.1 (s:=[110,111,116]) (by decide),num_ne h.1 (s:=[40]) (by decide),Bool.false_eq_true,if_false,if_true,hn]
 | .var q m n,h=>by
  refine ⟨fun _=>top_rt rfl ?_ (by simp [need]),fun h=>h.elim⟩
  intro d ts r _ hb hf
  obtain ⟨s,L,h1,h2⟩:=head_qual h.1 h.2 []
  rw [List.append_nil] at h1
  rw [one_named h2 (by rw [← h1]; exact hb)]
  exact var_rt h.1 h.2 ts r hb hf
 | .item q m n i,h=>by
  have ih:=(rt_all z i h.2.2.1).1 h.2.2.2
  refine ⟨fun _=>top_rt rfl ?_ (by simp [need]),fun h=>h.elim⟩
  intro d ts r hd hb hf
  obtain ⟨s,L,h1,h2⟩:=head_qual h.1 h.2.1 ([91] :: (toks i ++ [[93]]))
  rw [one_named h2 (by rw [← h1]; exact hb)]
  rw [need] at hd
  exact item_rt h.1 h.2.1 ih (by omega) ts r hb hf
 | .app q m n l,h=>by
  have ih:=(rt_all z l h.2.2.1).2 h.2.2.2
  refine ⟨fun _=>top_rt rfl ?_ (by simp [need]),fun h=>h.elim⟩
  intro d ts r hd hb hf
  obtain ⟨s,L,h1,h2⟩:=head_qual h.1 h.2.1 ([40] :: (toks l ++ [[41]]))
  rw [one_named h2 (by rw [← h1]; exact hb)]
  rw [need] at hd
  exact app_rt h.1 h.2.1 (ih d (by omega)) ts r hb hf
 | .un q op x,h=>by
  have ih:=(rt_all z x h.2.1).1 h.2.2
  refine ⟨fun _=>top_rt rfl ?_ (by simp [need]),fun h=>h.elim⟩
  intro d ts r hn hb hf
  rw [need] at hn
  rw [toks] at hb
  have hs:=see_beg hb
  obtain ⟨x',e1,e2⟩:=ih.1 d 0 (by omega) (by show needW 5 x (need x)≤d; omega) _ _ (hs []).2 hf
  rw [expr] at e2
  refine ⟨.un (hd z ts) op x',by simp only [E.strip,e1],?_⟩
  rw [one]
  simp only
  rcases h.1 with rfl | rfl
  ·rw [if_pos (by rw [(hs _).1]; decide),e2]
  ·rw [if_neg (by rw [(hs _).1]; decide),if_pos (by rw [(hs _).1]; decide),e2]
 | .bin q op x y,h=>⟨fun _=>bin_rt h.1 ((rt_all z x h.2.1.1).1 h.2.1.2) ((rt_all z y h.2.2.1).1 h.2.2.2),fun h=>h.elim⟩
 | .nil,_=>⟨fun h=>h.elim,fun _ _ _=>args_nil⟩
 | .cons x l,h=>by
  have ihx:=(rt_all z x h.1.1).1 h.1.2
  have ihl:=(rt_all z l h.2.1).2 h.2.2
  refine ⟨fun h=>h.elim,fun _ d hd=>?_⟩
  rw [need] at hd
  exact args_cons h ihx (by omega) (ihl d (by omega))
theorem fits_rt {z d:Nat} {x:E} (h:Fits d 0 x) {ts r:List Tok} (hb:Beg (toks x) ts r) (hf:Fol 5 r) : ∃ x',x'.strip=x.strip∧expr z (one z d) 5 ts = .ok x' r:=
 rt0 ((rt_all z x h.1.1).1 h.1.2) (fits0 h).1 ts r hb hf
end Go.Mq.Tree
namespace Go.Mq.Tree
open Go Go.RowKit Go.Mq
def S.strip:S→S
 | .nil=>.nil
 | .set _ n i v r=>.set 0 n (i.map E.strip) v.strip r.strip
 | .ifs _ v t e r=>.ifs 0 v.strip t.strip e.strip r.strip
 | .whil _ v t r=>.whil 0 v.strip t.strip r.strip
 | .ret _ v r=>.ret 0 v.strip r.strip
 | .wri _ v r=>.wri 0 v.strip r.strip
 | .call _ v r=>.call 0 v.strip r.strip
theorem strip_app : ∀ (a b:S),(a.app b).strip=a.strip.app b.strip
 | .nil,_=>rfl
 | .set _ _ _ _ r,b=>by simp [S.app,S.strip,strip_app r b]
 | .ifs _ _ _ _ r,b=>by simp [S.app,S.strip,strip_app r b]
 | .whil _ _ _ r,b=>by simp [S.app,S.strip,strip_app r b]
 | .ret _ _ r,b=>by simp [S.app,S.strip,strip_app r b]
 | .wri _ _ r,b=>by simp [S.app,S.strip,strip_app r b]
 | .call _ _ r,b=>by simp [S.app,S.strip,strip_app r b]
theorem app_assoc : ∀ (a b c:S),(a.app b).app c=a.app (b.app c)
 | .nil,_,_=>rfl
 | .set _ _ _ _ r,b,c=>by simp [S.app,app_assoc r b c]
 | .ifs _ _ _ _ r,b,c=>by simp [S.app,app_assoc r b c]
 | .whil _ _ _ r,b,c=>by simp [S.app,app_assoc r b c]
 | .ret _ _ r,b,c=>by simp [S.app,app_assoc r b c]
 | .wri _ _ r,b,c=>by simp [S.app,app_assoc r b c]
 | .call _ _ r,b,c=>by simp [S.app,app_assoc r b c]
theorem strip_nil {s:S} : s.strip.isNil=s.isNil:=by cases s <;> rfl
theorem strip_var {x:E} {p:Nat} {m n:List UInt8} (h : x.strip=(E.var p m n).strip) : ∃ q,x = .var q m n:=by
 cases x <;> simp only [E.strip,E.var.injEq,reduceCtorEq,true_and] at h
 obtain ⟨rfl,rfl⟩:=h; exact ⟨_,rfl⟩
theorem strip_item {x:E} {p:Nat} {m n:List UInt8} {i:E} (h : x.strip=(E.item p m n i).strip) : ∃ q i',x = .item q m n i'∧i'.strip=i.strip:=by
 cases x <;> simp only [E.strip,E.item.injEq,reduceCtorEq,true_and] at h
 obtain ⟨rfl,rfl,h⟩:=h; exact ⟨_,_,rfl,h⟩
theorem strip_call {x:E} {p:Nat} {m n:List UInt8} {l:E} (h : x.strip=(E.app p m n l).strip) : ∃ q l',x = .app q m n l':=by
 cases x <;> simp only [E.strip,E.app.injEq,reduceCtorEq,true_and] at h
 obtain ⟨rfl,rfl,h⟩:=h; exact ⟨_,_,rfl⟩
def Stop (r:List Tok):Prop:=(see [101,110,100] r || see [101,108,115,101] r || see [101,108,115,105,102] r)=true
def st (z d:Nat):Ps S:=stmt z (bodies z d).1 (restL z (bodies z d).1 (bodies z d).2)
def BX (z d:Nat) (s:S):Prop:=∀ r,Stop r → ∀ f acc ts,Beg (stmtK s) ts r→ts.length < f → ∃ s',s'.strip=s.strip∧bodyL z (st z d) f acc ts = .ok (acc.app s') r
theorem stop_beg {s:List UInt8} (hs : s=[101,110,100]∨s=[101,108,115,101]) {K:List (List UInt8)} {ts r:List Tok} (hb:Beg (s :: K) ts r):Stop ts:=by
 rw [Stop,(see_beg hb _).1,(see_beg hb _).1,(see_beg hb _).1]
 rcases hs with rfl | rfl <;> decide
theorem body_rt {z d:Nat} {s:S} (h:BX z d s) {ts r:List Tok} (hb:Beg (stmtK s) ts r) (hs:Stop r) : ∃ s',s'.strip=s.strip∧(bodies z (d + 1)).1 ts = .ok s' r:=by
 obtain ⟨s',h1,h2⟩:=h r hs (ts.length + 1) .nil ts hb (Nat.lt_succ_self _)
 exact ⟨s',h1,h2⟩
theorem body_step {z:Nat} {sp:Ps S} {s1 sr:S} {ts m r:List Tok} {K:List (List UInt8)} (h0 : (see [101,110,100] ts || see [101,108,115,101] ts || see [101,108,115,105,102] ts)=false) (h1 : ∃ x,x.strip=s1∧sp ts = .ok x m) (h2:Beg ([59] :: K) m r) (hm : m.length≤ts.length)
  (ih : ∀ f acc ts,Beg K ts r→ts.length < f → ∃ s',s'.strip=sr∧bodyL z sp f acc ts = .ok (acc.app s') r) : ∀ f acc,ts.length < f → ∃ s',s'.strip=s1.app sr∧bodyL z sp f acc ts = .ok (acc.app s') r:=by
 intro f acc hf
 obtain ⟨x,e1,e2⟩:=h1
 cases f with
 | zero=>omega
 | succ f=>
  obtain ⟨a,h3,h4⟩:=beg_append [[59]] K h2
  have hlen:=beg_len _ h3
  simp only [List.length_cons,List.length_nil] at hlen
  obtain ⟨s',g1,g2⟩:=ih f (acc.app x) a h4 (by omega)
  refine ⟨x.app s',by rw [strip_app,e1,g1],?_⟩
  rw [bodyL,h0,e2]
  simp only [Bool.false_eq_true,if_false,must_rt h3,g2,app_assoc]
theorem ex0_rt {z:Nat} {x:E} (h:Fits 11 0 x) {s:List UInt8} (hs : s∈stopsK) {K:List (List UInt8)} {ts r:List Tok} (hb:Beg (toks x ++ s :: K) ts r) : ∃ x' m,x'.strip=x.strip∧ex0 z ts = .ok x' m∧Beg (s :: K) m r∧m.length≤ts.length:=by
 obtain ⟨m,h1,h2⟩:=beg_append _ _ hb
 obtain ⟨x',e1,e2⟩:=fits_rt (z:=z) (d:=11) h h1 (fol_stop hs h2)
 have:=beg_len _ h1
 exact ⟨x',m,e1,e2,h2,by omega⟩
theorem nm_stmt {s:List UInt8} (hs:Nm s) {K:List (List UInt8)} {ts r:List Tok} (hb:Beg (s :: K) ts r) : (see [101,110,100] ts || see [101,108,115,101] ts || see [101,108,115,105,102] ts)=false∧see [105,102] ts=false∧see [119,104,105,108,101] ts=false∧see [114,101,116,117,114,110] ts=false∧see [119,114,105,116,101] ts=false:=by
 simp only [(see_beg hb _).1]
 rw [nm_ne hs (s:=[101,110,100]) (by decide),nm_ne hs (s:=[101,108,115,101]) (by decide),nm_ne hs (s:=[101,108,115,105,102]) (by decide),nm_ne hs (s:=[105,102]) (by decide),nm_ne hs (s:=[119,104,105,108,101]) (by decide),nm_ne hs (s:=[114,101,116,117,114,110]) (by decide),nm_ne hs (s:=[119,114,105,116,101]) (by decide)]
 decide
theorem set_rt {z p:Nat} {x v:E} {i:Option E} {n:List UInt8} (hx:NX z 10 x) (hi : (i=none∧x = .var 0 [] n) ∨ ∃ j,i=some j∧x = .item 0 [] n j) (hv:Fits 11 0 v) {K:List (List UInt8)} {ts r:List Tok} (hb:Beg (toks x ++ [58,61] :: (toks v ++ [59] :: K)) ts r) :
  ∃ s' m,s'.strip = .set 0 n (i.map E.strip) v.strip .nil∧first z p ts = .ok s' m∧Beg ([59] :: K) m r∧m.length≤ts.length:=by
 obtain ⟨a,h1,h2⟩:=beg_append _ _ hb
 obtain ⟨x',e1,e2⟩:=hx _ _ h1 (fol_mono (Nat.zero_le _) (fol_stop (s:=[58,61]) (by decide) h2))
 obtain ⟨b,h3,h4⟩:=beg_append [[58,61]] _ h2
 obtain ⟨v',m,f1,f2,f3,f4⟩:=ex0_rt (z:=z) hv (s:=[59]) (by decide) h4
 have l1:=beg_len _ h1
 have l2:=beg_len _ h3
 simp only [List.length_cons,List.length_nil] at l2
 rw [first,e2]
 rcases hi with ⟨rfl,rfl⟩ | ⟨j,rfl,rfl⟩
 ·obtain ⟨q,rfl⟩:=strip_var e1
  refine ⟨.set p n none v' .nil,m,by simp only [S.strip,f1,Option.map_none],?_,f3,by omega⟩
  simp only [ne_eq,not_true_eq_false,if_false,must_rt h3,f2]
 ·obtain ⟨q,i',rfl,e3⟩:=strip_item e1
  refine ⟨.set p n (some i') v' .nil,m,by simp only [S.strip,f1,Option.map_some,e3],?_,f3,by omega⟩
  simp only [ne_eq,not_true_eq_false,if_false,must_rt h3,f2]
theorem call_rt {z p q:Nat} {m n:List UInt8} {l:E} (hx:NX z 10 (.app q m n l)) {K:List (List UInt8)} {ts r:List Tok} (hb:Beg (toks (.app q m n l) ++ [59] :: K) ts r) :
  ∃ s' a,s'.strip = .call 0 (E.app q m n l).strip .nil∧first z p ts = .ok s' a∧Beg ([59] :: K) a r∧a.length≤ts.length:=by
 obtain ⟨a,h1,h2⟩:=beg_append _ _ hb
 obtain ⟨x',e1,e2⟩:=hx _ _ h1 (fol_mono (Nat.zero_le _) (fol_stop (s:=[59]) (by decide) h2))
 have l1:=beg_len _ h1
 obtain ⟨q',l',rfl⟩:=strip_call e1
 exact ⟨.call p (.app q' m n l') .nil,a,by simp only [S.strip,e1],by rw [first,e2],h2,by omega⟩
theorem rest_rt {z d:Nat} {v:E} {t e:S} (hv:Fits 11 0 v) (ht : ∀ ts r,Beg (stmtK t) ts r→Stop r → ∃ s',s'.strip=t.strip∧(bodies z d).1 ts = .ok s' r) (he : ∀ ts r,Beg (stmtK e) ts r→Stop r → ∃ s',s'.strip=e.strip∧(bodies z d).1 ts = .ok s' r)
  {K:List (List UInt8)} {ts r:List Tok} (hb:Beg (toks v ++ [116,104,101,110] :: (stmtK t ++ ((if e.isNil then [] else [101,108,115,101] :: stmtK e) ++ [101,110,100] :: K))) ts r) :
  ∃ x m,x.1.strip=v.strip∧x.2.1.strip=t.strip∧x.2.2.strip=e.strip∧restL z (bodies z d).1 (bodies z d).2 ts = .ok x m∧Beg ([101,110,100] :: K) m r∧m.length≤ts.length:=by
 obtain ⟨v',a,f1,f2,f3,f4⟩:=ex0_rt (z:=z) hv (s:=[116,104,101,110]) (by decide) hb
 obtain ⟨b,h1,h2⟩:=beg_append [[116,104,101,110]] _ f3
 have l1:=beg_len _ h1
 obtain ⟨c,h3,h4⟩:=beg_append _ _ h2
 have l2:=beg_len _ h3
 simp only [List.length_cons,List.length_nil] at l1
 cases hn : e.isNil with
 | true=>
  rw [hn,if_pos rfl,List.nil_append] at h4
  obtain ⟨t',g1,g2⟩:=ht _ _ h3 (stop_beg (.inl rfl) h4)
  refine ⟨(v',t',.nil),c,f1,g1,by rw [isNil_len hn],?_,h4,by omega⟩
  rw [restL,f2]
  simp only [must_rt h1,g2]
  rw [if_neg (by rw [(see_beg h4 _).1]; decide),if_neg (by rw [(see_beg h4 _).1]; decide)]
 | false=>
  rw [hn,if_neg (by decide),List.cons_append] at h4
  obtain ⟨t',g1,g2⟩:=ht _ _ h3 (stop_beg (.inr rfl) h4)
  have h5:=see_beg h4
  obtain ⟨m,h6,h7⟩:=beg_append _ _ (h5 []).2
  obtain ⟨e',g3,g4⟩:=he _ _ h6 (stop_beg (.inl rfl) h7)
  have l3:=beg_len _ h6
  refine ⟨(v',t',e'),m,f1,g1,g3,?_,h7,by simp only [List.length_tail] at l3; omega⟩
  rw [restL,f2]
  simp only [must_rt h1,g2]
  rw [if_neg (by rw [(h5 _).1]; decide),if_pos (by rw [(h5 _).1]; decide),g4]
theorem stmts_rt (z:Nat) : ∀ (s:S) (d:Nat),WFS d s→BX z d s
 | .nil,d,_=>by
  intro r hs f acc ts hb hf
  cases hb
  cases f with
  | zero=>omega
  | succ f=>
   refine ⟨.nil,rfl,?_⟩
   have e : (see [101,110,100] r || see [101,108,115,101] r || see [101,108,115,105,102] r)=true:=hs
   have e2 : ∀ a:S,a.app .nil=a:=by intro a; induction a <;> simp_all [S.app]
   rw [bodyL,if_pos e,e2]
 | .set p n i v r,d,h=>by
  intro rr hs f acc ts hb hf
  have ih:=stmts_rt z r d h.2.2.2 rr hs
  have key : ∃ x,NX z 10 x∧((i=none∧x = .var 0 [] n) ∨ ∃ j,i=some j∧x = .item 0 [] n j)∧toks x=n :: indexK i:=by
   cases hi : i with
   | none=>exact ⟨.var 0 [] n,var_rt (.inl rfl) h.1,.inl ⟨rfl,rfl⟩,rfl⟩
   | some j=>
    have hj:=h.2.1 j hi
    exact ⟨.item 0 [] n j,item_rt (.inl rfl) h.1 ((rt_all z j hj.1.1).1 hj.1.2) (fits0 hj).1,.inr ⟨j,rfl,rfl⟩,rfl⟩
  obtain ⟨x,k1,k2,k3⟩:=key
  have hb2:Beg (toks x ++ [58,61] :: (toks v ++ [59] :: stmtK r)) ts rr:=by rw [k3]; exact hb
  obtain ⟨s',m,e1,e2,e3,e4⟩:=set_rt (p:=hd z ts) k1 k2 h.2.2.1 hb2
  have hn:=nm_stmt h.1 hb
  refine body_step hn.1 ⟨s',e1,?_⟩ e3 e4 ih f acc hf
  rw [st,stmt,hn.2.1,hn.2.2.1,hn.2.2.2.1,hn.2.2.2.2]
  exact e2
 | .call p v r,d,h=>by
  intro rr hs f acc ts hb hf
  have ih:=stmts_rt z r d h.2 rr hs
  obtain ⟨hv,q,m,n,l,rfl⟩:=h.1
  have hn : need l≤10:=by
   have:=hv.2
   rw [needW,if_pos (show 5≤lvl (E.app q m n l) from Nat.le_refl 5),need] at this
   omega
  have hx:NX z 10 (.app q m n l):=app_rt hv.1.1.1 hv.1.1.2.1 ((rt_all z l hv.1.1.2.2.1).2 hv.1.1.2.2.2 10 hn)
  obtain ⟨s',a,e1,e2,e3,e4⟩:=call_rt (p:=hd z ts) hx hb
  obtain ⟨s,L,k1,k2⟩:=head_qual hv.1.1.1 hv.1.1.2.1 ([40] :: (toks l ++ [[41]]))
  have hb2:Beg (s :: (L ++ [59] :: stmtK r)) ts rr:=by
   rw [← List.cons_append,← k1]; exact hb
  have hn:=nm_stmt k2 hb2
  refine body_step hn.1 ⟨s',e1,?_⟩ e3 e4 ih f acc hf
  rw [st,stmt,hn.2.1,hn.2.2.1,hn.2.2.2.1,hn.2.2.2.2]
  exact e2
 | .ret p v r,d,h=>by
  intro rr hs f acc ts hb hf
  have ih:=stmts_rt z r d h.2 rr hs
  have h5:=see_beg hb
  obtain ⟨v',m,e1,e2,e3,e4⟩:=ex0_rt (z:=z) h.1 (s:=[59]) (by decide) (h5 []).2
  refine body_step (s1:=.ret 0 v.strip .nil) (by rw [(h5 _).1,(h5 _).1,(h5 _).1]; decide) ⟨.ret (hd z ts) v' .nil,by simp only [S.strip,e1],?_⟩ e3 (by simp only [List.length_tail] at e4; omega) ih f acc hf
  rw [st,stmt,if_neg (by rw [(h5 _).1]; decide),if_neg (by rw [(h5 _).1]; decide),if_pos (by rw [(h5 _).1]; decide),e2]
 | .wri p v r,d,h=>by
  intro rr hs f acc ts hb hf
  have ih:=stmts_rt z r d h.2 rr hs
  have h5:=see_beg hb
  obtain ⟨v',m,e1,e2,e3,e4⟩:=ex0_rt (z:=z) h.1 (s:=[59]) (by decide) (h5 []).2
  refine body_step (s1:=.wri 0 v.strip .nil) (by rw [(h5 _).1,(h5 _).1,(h5 _).1]; decide) ⟨.wri (hd z ts) v' .nil,by simp only [S.strip,e1],?_⟩ e3 (by simp only [List.length_tail] at e4; omega) ih f acc hf
  rw [st,stmt,if_neg (by rw [(h5 _).1]; decide),if_neg (by rw [(h5 _).1]; decide),if_neg (by rw [(h5 _).1]; decide),if_pos (by rw [(h5 _).1]; decide),e2]
 | .whil p v t r,d,h=>by
  intro rr hs f acc ts hb hf
  have ih:=stmts_rt z r d h.2.2 rr hs
  obtain ⟨hd0,ht⟩:=h.2.1
  obtain ⟨d,rfl⟩ : ∃ k,d=k + 1:=⟨d - 1,by omega⟩
  have iht:=stmts_rt z t d ht
  have h5:=see_beg hb
  obtain ⟨v',a,e1,e2,e3,e4⟩:=ex0_rt (z:=z) h.1 (s:=[100,111]) (by decide) (h5 []).2
  obtain ⟨b,h6,h7⟩:=beg_append [[100,111]] _ e3
  obtain ⟨c,h8,h9⟩:=beg_append _ _ h7
  obtain ⟨t',g1,g2⟩:=body_rt iht h8 (stop_beg (.inl rfl) h9)
  obtain ⟨m,h10,h11⟩:=beg_append [[101,110,100]] _ h9
  have l1:=beg_len _ h6
  have l2:=beg_len _ h8
  have l3:=beg_len _ h10
  simp only [List.length_tail,List.length_cons,List.length_nil] at e4 l1 l2 l3
  refine body_step (s1:=.whil 0 v.strip t.strip .nil) (by rw [(h5 _).1,(h5 _).1,(h5 _).1]; decide) ⟨.whil (hd z ts) v' t' .nil,by simp only [S.strip,e1,g1],?_⟩ h11 (by omega) ih f acc hf
  rw [st,stmt,if_neg (by rw [(h5 _).1]; decide),if_pos (by rw [(h5 _).1]; decide),e2]
  simp only [must_rt h6,g2,must_rt h10]
 | .ifs p v t e r,d,h=>by
  intro rr hs f acc ts hb hf
  have ih:=stmts_rt z r d h.2.2 rr hs
  obtain ⟨⟨hd0,ht⟩,_,he⟩:=h.2.1
  obtain ⟨d,rfl⟩ : ∃ k,d=k + 1:=⟨d - 1,by omega⟩
  have iht:=stmts_rt z t d ht
  have ihe:=stmts_rt z e d he
  have h5:=see_beg hb
  obtain ⟨x,a,e1,e2,e3,e4,e5,e6⟩:=rest_rt (z:=z) (d:=d + 1) h.1 (fun _ _ h1 h2=>body_rt iht h1 h2) (fun _ _ h1 h2=>body_rt ihe h1 h2) (h5 []).2
  obtain ⟨m,h10,h11⟩:=beg_append [[101,110,100]] _ e5
  have l3:=beg_len _ h10
  simp only [List.length_tail,List.length_cons,List.length_nil] at e6 l3
  refine body_step (s1:=.ifs 0 v.strip t.strip e.strip .nil) (by rw [(h5 _).1,(h5 _).1,(h5 _).1]; decide) ⟨.ifs (hd z ts) x.1 x.2.1 x.2.2 .nil,by simp only [S.strip,e1,e2,e3],?_⟩ h11 (by omega) ih f acc hf
  rw [st,stmt,if_pos (by rw [(h5 _).1]; decide),e4]
  simp only [must_rt h10]
def Glob.strip (g:Glob):Glob:={ g with pos:=0 }
def Proc.strip (x:Proc):Proc:={ x with pos:=0,body:=x.body.strip }
def Mod.strip (m:Mod):Mod:={ m with vars:=m.vars.map Glob.strip,procs:=m.procs.map Proc.strip,body:=m.body.strip }
theorem namesL_rt {z most:Nat} : ∀ (l:List (List UInt8)) (f:Nat) (acc:List (List UInt8)) (ts r:List Tok),l≠[]→(∀ n∈l,Nm n)→acc.length + l.length≤most→l.length≤f→Beg (namesK l) ts r→see [44] r=false→namesL z most f acc ts = .ok (acc ++ l) r
 | [n],f,acc,ts,r,_,hn,hm,hf,hb,hr=>by
  simp only [List.length_cons,List.length_nil] at hm hf
  cases f with
  | zero=>omega
  | succ f=>
   rw [namesL,if_neg (by omega),name_rt (hn n (by simp)) hb]
   simp only [hr,Bool.false_eq_true,if_false]
 | n :: m :: l,f,acc,ts,r,_,hn,hm,hf,hb,hr=>by
  simp only [List.length_cons] at hm hf
  cases f with
  | zero=>omega
  | succ f=>
   obtain ⟨a,h1,h2⟩:=beg_append [n] _ hb
   have h3:=see_beg h2
   rw [namesL,if_neg (by omega),name_rt (hn n (by simp)) h1]
   simp only
   rw [if_pos (by rw [(h3 _).1]; decide),namesL_rt (m :: l) f (acc ++ [n]) _ _ (by simp) (fun x hx=>hn x (by simp [hx])) (by simp; omega) (by simp; omega) (h3 []).2 hr]
   simp
theorem names_rt {z most:Nat} {l:List (List UInt8)} {ts r:List Tok} (h1 : l≠[]) (h2 : ∀ n∈l,Nm n) (h3 : l.length≤most) (hb:Beg (namesK l) ts r) (hr : see [44] r=false) : names z most ts = .ok l r:=by
 rw [names,namesL_rt l _ [] ts r h1 h2 (by simpa using h3) (by omega) hb hr]; rfl
theorem head_names {l:List (List UInt8)} (h1 : l≠[]) (h2 : ∀ n∈l,Nm n) : ∃ n L,namesK l=n :: L∧Nm n:=by
 cases l with
 | nil=>exact absurd rfl h1
 | cons n l=>cases l <;> exact ⟨n,_,rfl,h2 n (by simp)⟩
theorem star_rt {b:Bool} {s:List UInt8} (hs : (s == [42])=false) {K:List (List UInt8)} {ts r:List Tok} (hb:Beg (starK b ++ s :: K) ts r) : see [42] ts=b∧Beg (s :: K) (skip [42] ts) r:=by
 cases b with
 | false=>
  replace hb:Beg (s :: K) ts r:=hb
  have h:=(see_beg hb [42]).1
  rw [hs] at h
  exact ⟨h,by rw [skip,h]; exact hb⟩
 | true=>
  replace hb:Beg ([42] :: s :: K) ts r:=hb
  have h:=(see_beg hb [42])
  have h1 : see [42] ts=true:=by rw [h.1]; decide
  exact ⟨h1,by rw [skip,h1]; exact h.2⟩
theorem kindOf_rt {z:Nat} {n:Int} (h0 : 0≤n) (h1 : n≤30) {ts r:List Tok} (hb:Beg (if 0 < n then [[97,114,114,97,121],Lib.itoa n] else [[105,110,116]]) ts r) : kindOf z ts = .ok n r:=by
 rw [kindOf]
 by_cases hn : 0 < n
 ·rw [if_pos hn] at hb
  have h:=see_beg hb
  rw [if_pos (by rw [(h _).1]; decide),number_rt h0 h1 (by omega) (h []).2]
  simp only
  rw [if_neg (by omega)]
 ·rw [if_neg hn] at hb
  have h:=see_beg hb
  rw [if_neg (by rw [(h _).1]; decide),must_rt hb]
  simp only
  congr 1; omega
theorem glob_rt {z:Nat} {g:Glob} (h:WFG g) {ts r:List Tok} (hb:Beg (globK g) ts r) : see [118,97,114] ts=true ∧ ∃ g',g'.strip=g.strip∧glob z ts.tail = .ok g' r:=by
 have h1:=see_beg hb
 refine ⟨by rw [(h1 _).1]; decide,?_⟩
 obtain ⟨a,h2,h3⟩:=beg_append [g.name] _ (h1 []).2
 obtain ⟨h4,h5⟩:=star_rt (by decide) h3
 obtain ⟨b,h6,h7⟩:=beg_append [[58]] _ h5
 obtain ⟨c,h8,h9⟩:=beg_append _ _ h7
 refine ⟨⟨g.name,hd z ts.tail,g.len,g.seen⟩,rfl,?_⟩
 rw [glob,name_rt h.name h2]
 simp only [must_rt h6,kindOf_rt h.low h.high h8,must_rt h9,h4]
theorem vars_rt {z:Nat} : ∀ (l:List Glob) (f:Nat) (acc:List Glob) (ts r:List Tok),(∀ g∈l,WFG g)→acc.length + l.length≤10→l.length < f→Beg (l.flatMap globK) ts r→see [118,97,114] r=false → ∃ l',l'.map Glob.strip=l.map Glob.strip∧varsL z f acc ts = .ok (acc ++ l') r
 | [],f,acc,ts,r,_,_,hf,hb,hr=>by
  cases hb
  cases f with
  | zero=>omega
  | succ f=>exact ⟨[],rfl,by rw [varsL,hr]; simp⟩
 | g :: l,f,acc,ts,r,hg,hm,hf,hb,hr=>by
  simp only [List.length_cons] at hm hf
  cases f with
  | zero=>omega
  | succ f=>
   rw [List.flatMap_cons] at hb
   obtain ⟨a,h1,h2⟩:=beg_append _ _ hb
   obtain ⟨e1,g',e2,e3⟩:=glob_rt (z:=z) (hg g (by simp)) h1
   obtain ⟨l',f1,f2⟩:=vars_rt (z:=z) l f (acc ++ [g']) a r (fun x hx=>hg x (by simp [hx])) (by simp; omega) (by omega) h2 hr
   refine ⟨g' :: l',by simp [e2,f1],?_⟩
   rw [varsL,if_pos e1,if_neg (by omega),e3]
   simp only [f2,List.append_assoc,List.cons_append,List.nil_append]
theorem params_rt {z:Nat} {l:List (List UInt8)} (h1 : ∀ n∈l,Nm n) (h2 : l.length≤10) {K:List (List UInt8)} {ts r:List Tok} (hb:Beg (namesK l ++ [41] :: K) ts r) : ∃ m,params z ts = .ok l m∧Beg K m r:=by
 by_cases h0 : l=[]
 ·subst h0
  have h:=see_beg (s:=[41]) hb
  refine ⟨ts.tail,?_,(h []).2⟩
  rw [params,if_pos (by rw [(h _).1]; decide)]
 ·obtain ⟨n,L,h3,h4⟩:=head_names h0 h1
  obtain ⟨a,h5,h6⟩:=beg_append _ _ hb
  obtain ⟨m,h7,h8⟩:=beg_append [[41]] K h6
  refine ⟨m,?_,h8⟩
  have hs : see [41] ts=false:=by
   rw [h3] at h5
   rw [(see_beg h5 _).1]; exact nm_ne h4 (by decide)
  rw [params,hs,names_rt h0 h1 h2 h5 (by rw [(see_beg h6 _).1]; decide)]
  simp only [Bool.false_eq_true,if_false,must_rt h7]
theorem heads_rt {z most:Nat} {s:List UInt8} {l:List (List UInt8)} (h1 : ∀ n∈l,Nm n) (h2 : l.length≤most) {t:List UInt8} (ht : (t == s)=false) {K:List (List UInt8)} {ts r:List Tok} (hb:Beg (headK s l ++ t :: K) ts r) :
  ∃ m,(if see s ts then match names z most ts.tail with
   | .bad e p=>R.bad e p
   | .ok l r=>match must z [59] r with
    | .bad e p=>.bad e p
    | .ok _ r2=>.ok l r2
  else .ok [] ts) = .ok l m∧Beg (t :: K) m r:=by
 by_cases h0 : l=[]
 ·subst h0
  replace hb:Beg (t :: K) ts r:=hb
  refine ⟨ts,?_,hb⟩
  rw [(see_beg hb _).1,ht]; simp
 ·rw [headK,if_neg h0,List.cons_append,List.append_assoc] at hb
  have h:=see_beg hb
  obtain ⟨a,h5,h6⟩:=beg_append _ _ (h []).2
  obtain ⟨m,h7,h8⟩:=beg_append [[59]] _ h6
  refine ⟨m,?_,h8⟩
  rw [(h _).1,if_pos (beq_self_eq_true s),names_rt h0 h1 h2 h5 (by rw [(see_beg h6 _).1]; decide)]
  simp only [must_rt h7]
theorem block_rt {z:Nat} {b:S} {m:List UInt8} (h:WFS 10 b) {K:List (List UInt8)} {ts r:List Tok} (hb:Beg ([98,101,103,105,110] :: (stmtK b ++ [101,110,100] :: m :: K)) ts r) : ∃ b' a,b'.strip=b.strip∧block z m ts = .ok b' a∧Beg K a r:=by
 obtain ⟨a,h1,h2⟩:=beg_append [[98,101,103,105,110]] _ hb
 obtain ⟨c,h3,h4⟩:=beg_append _ _ h2
 obtain ⟨d,h5,h6⟩:=beg_append [[101,110,100]] _ h4
 obtain ⟨e,h7,h8⟩:=beg_append [m] _ h6
 obtain ⟨b',e1,e2⟩:=body_rt (stmts_rt z b 10 h) h3 (stop_beg (.inl rfl) h4)
 refine ⟨b',e,e1,?_,h8⟩
 rw [block,must_rt h1]
 simp only [body0,e2,must_rt h5,must_rt h7]
theorem proc_rt {z:Nat} {x:Proc} (h:WFP x) {ts r:List Tok} (hb:Beg (procK x) ts r) : see [112,114,111,99] ts=true ∧ ∃ x',x'.strip=x.strip∧proc z ts = .ok x' r:=by
 refine ⟨by rw [(see_beg hb _).1]; decide,?_⟩
 obtain ⟨a,h1,h2⟩:=beg_append [[112,114,111,99]] _ hb
 obtain ⟨b,h3,h4⟩:=beg_append [x.name] _ h2
 obtain ⟨h5,h6⟩:=star_rt (by decide) h4
 obtain ⟨c,h7,h8⟩:=beg_append [[40]] _ h6
 obtain ⟨d,e1,h9⟩:=params_rt (z:=z) h.params h.few h8
 obtain ⟨e,h10,h11⟩:=beg_append [[59]] _ h9
 obtain ⟨f,e2,h12⟩:=heads_rt (z:=z) h.vars h.room (by decide) h11
 obtain ⟨b',g,e3,e4,h13⟩:=block_rt (z:=z) h.body h12
 cases h13
 refine ⟨⟨x.name,hd z ts,x.seen,x.params,x.vars,b'⟩,by simp only [Proc.strip,e3],?_⟩
 rw [proc,must_rt h1]
 simp only [name_rt h.name h3,must_rt h7,e1,must_rt h10,h5]
 have e5 : locals z (10 - x.params.length) e = .ok x.vars f:=e2
 simp only [e5,e4]
theorem procs_rt {z:Nat} : ∀ (l:List Proc) (f:Nat) (acc:List Proc) (ts r:List Tok),(∀ g∈l,WFP g)→acc.length + l.length≤10→l.length < f→Beg (l.flatMap procK) ts r→see [112,114,111,99] r=false → ∃ l',l'.map Proc.strip=l.map Proc.strip∧procsL z f acc ts = .ok (acc ++ l') r
 | [],f,acc,ts,r,_,_,hf,hb,hr=>by
  cases hb
  cases f with
  | zero=>omega
  | succ f=>exact ⟨[],rfl,by rw [procsL,hr]; simp⟩
 | g :: l,f,acc,ts,r,hg,hm,hf,hb,hr=>by
  simp only [List.length_cons] at hm hf
  cases f with
  | zero=>omega
  | succ f=>
   rw [List.flatMap_cons] at hb
   obtain ⟨a,h1,h2⟩:=beg_append _ _ hb
   obtain ⟨e1,g',e2,e3⟩:=proc_rt (z:=z) (hg g (by simp)) h1
   obtain ⟨l',f1,f2⟩:=procs_rt (z:=z) l f (acc ++ [g']) a r (fun x hx=>hg x (by simp [hx])) (by simp; omega) (by omega) h2 hr
   refine ⟨g' :: l',by simp [e2,f1],?_⟩
   rw [procsL,if_pos e1,if_neg (by omega),e3]
   simp only [f2,List.append_assoc,List.cons_append,List.nil_append]
theorem see_flat {α:Type} {g : α→List (List UInt8)} {w:List UInt8} (hg : ∀ x,∃ L,g x=w :: L) {s:List UInt8} (hw : (w == s)=false) {t:List UInt8} (ht : (t == s)=false) {l:List α} {K:List (List UInt8)} {ts r:List Tok} (hb:Beg (l.flatMap g ++ t :: K) ts r) : see s ts=false:=by
 cases l with
 | nil=>rw [(see_beg (s:=t) hb _).1]; exact ht
 | cons x l=>
  obtain ⟨L,hL⟩:=hg x
  rw [List.flatMap_cons,hL] at hb
  rw [(see_beg (s:=w) hb _).1]; exact hw
theorem module_rt {z:Nat} {m:Mod} (h:WFM m) {ts:List Tok} (hb:Beg (modK m) ts []) : ∃ m',m'.strip=m.strip∧module_ z ts = .ok m' []:=by
 obtain ⟨a,h1,h2⟩:=beg_append [[109,111,100,117,108,101]] _ hb
 obtain ⟨b,h3,h4⟩:=beg_append [m.name] _ h2
 obtain ⟨c,h5,h6⟩:=beg_append [[59]] _ h4
 have key : ∃ d,imports z c = .ok m.imports d∧Beg (m.vars.flatMap globK ++ (m.procs.flatMap procK ++ [98,101,103,105,110] :: (stmtK m.body ++ [[101,110,100],[46]]))) d []:=by
  have : ∃ t K,m.vars.flatMap globK ++ (m.procs.flatMap procK ++ [98,101,103,105,110] :: (stmtK m.body ++ [[101,110,100],[46]]))=t :: K∧(t == [105,109,112,111,114,116])=false:=by
   cases m.vars with
   | nil=>
    cases m.procs with
    | nil=>exact ⟨_,_,rfl,by decide⟩
    | cons x l=>exact ⟨[112,114,111,99],_,rfl,by decide⟩
   | cons x l=>exact ⟨[118,97,114],_,rfl,by decide⟩
  obtain ⟨t,K,k1,k2⟩:=this
  have h6':Beg (headK [105,109,112,111,114,116] m.imports ++ t :: K) c []:=by rw [← k1]; exact h6
  obtain ⟨d,e1,e2⟩:=heads_rt (z:=z) h.imports h.few k2 h6'
  exact ⟨d,e1,by rw [k1]; exact e2⟩
 obtain ⟨d,e1,h7⟩:=key
 obtain ⟨e,h8,h9⟩:=beg_append _ _ h7
 obtain ⟨f,h10,h11⟩:=beg_append _ _ h9
 obtain ⟨vs,f1,f2⟩:=vars_rt (z:=z) m.vars 11 [] d e h.vars (by simpa using h.fewv) (by have:=h.fewv; omega) h8 (see_flat (w:=[112,114,111,99]) (g:=procK) (fun x=>⟨_,rfl⟩) (by decide) (by decide) h9)
 obtain ⟨ps,f3,f4⟩:=procs_rt (z:=z) m.procs 11 [] e f h.procs (by simpa using h.fewp) (by have:=h.fewp; omega) h10 (by rw [(see_beg h11 _).1]; decide)
 obtain ⟨b',g,e3,e4,h12⟩:=block_rt (z:=z) h.body h11
 cases h12
 refine ⟨⟨m.name,m.imports,vs,ps,b'⟩,by simp only [Mod.strip,f1,f3,e3],?_⟩
 rw [module_,must_rt h1]
 simp only [name_rt h.name h3,must_rt h5,e1,f2,List.nil_append,f4,e4]
end Go.Mq.Tree
namespace Go.Mq.Tree
open Go Go.RowKit Go.Mq
def Calm (v:List UInt8):Prop:=∀ b,v.head?=some b→wordy b=false
theorem calm_cons {b:UInt8} (h : wordy b=false) (v:List UInt8):Calm (b :: v):=by
 intro c hc
 simp only [List.head?_cons,Option.some.injEq] at hc
 subst hc; exact h
def wordB:List UInt8→Bool
 | []=>false
 | c :: r=>letter c && r.all wordy
theorem is_word {t:List UInt8} (h : wordB t=true):IsWord t:=by
 cases t with
 | nil=>cases h
 | cons c r=>
  simp only [wordB,Bool.and_eq_true,List.all_eq_true] at h
  exact ⟨c,r,rfl,h.1,h.2⟩
theorem tk_word {t u:List UInt8} {K:List (List UInt8)} (h:IsWord t∨IsNum t) (hu:Calm u) (hk:Toks u K):Toks (t ++ u) (t :: K):=by
 refine .tok (h.elim .inl fun h=>.inr (.inl h)) ?_ hk
 cases u with
 | nil=>trivial
 | cons b u=>
  refine ⟨fun _=>hu b rfl,fun _=>?_⟩
  have hm : kindT t ≠ .mark:=by
   rcases h with h | h
   ·rw [kind_word h]; decide
   ·rw [kind_num h]; decide
  refine ⟨?_,?_,?_⟩ <;> (rintro rfl; exact hm (by decide))
theorem tk_nm {n u:List UInt8} {K:List (List UInt8)} (h:Nm n) (hu:Calm u) (hk:Toks u K):Toks (n ++ u) (n :: K):=tk_word (.inl h.1) hu hk
theorem tk_kw {b:UInt8} {t u:List UInt8} {K:List (List UInt8)} (h : wordB t=true) (hb : wordy b=false) (hk:Toks (b :: u) K):Toks (t ++ b :: u) (t :: K):=tk_word (.inl (is_word h)) (calm_cons hb u) hk
def markB (t:List UInt8):Bool:=marks.contains t && t != [58] && t != [60] && t != [62]
theorem tk_mark {t u:List UInt8} {K:List (List UInt8)} (h : markB t=true) (hk:Toks u K):Toks (t ++ u) (t :: K):=by
 simp only [markB,Bool.and_eq_true,List.contains_iff_mem,bne_iff_ne,ne_eq] at h
 refine .tok (.inr (.inr h.1.1.1)) ?_ hk
 cases u with
 | nil=>trivial
 | cons b u=>exact ⟨fun h1=>absurd (kind_mark t h.1.1.1) h1,fun _=>⟨h.1.1.2,h.1.2,h.2⟩⟩
theorem tk_gap {b:UInt8} {t u:List UInt8} {K:List (List UInt8)} (h:IsTok t) (hb : gap b=true) (hk:Toks u K):Toks (t ++ b :: u) (t :: K):=.tok h (ends_gap hb) (.gap hb hk)
theorem tk_colon {u:List UInt8} {K:List (List UInt8)} (hk:Toks u K):Toks ([58,32] ++ u) ([58] :: K):=tk_gap (t:=[58]) (b:=32) (.inr (.inr (by decide))) (by decide) hk
theorem op_tok : ∀ k < 5,∀ op∈levels.getD (4 - k) [],wordB op=true∨op∈marks:=by decide
def TX (x:E):Prop:=∀ v K,Calm v→Toks v K→Toks (text x ++ v) (toks x ++ K)
theorem within_tx {lv:Nat} {x:E} (h:TX x) {v:List UInt8} {K:List (List UInt8)} (hv:Calm v) (hk:Toks v K):Toks (within lv x (text x) ++ v) (withinK lv x (toks x) ++ K):=by
 rw [within,withinK]
 split
 ·exact h v K hv hk
 ·simp only [List.append_assoc,List.cons_append,List.nil_append]
  exact tk_mark (t:=[40]) (by decide) (h _ _ (calm_cons (by decide) v) (tk_mark (t:=[41]) (by decide) hk))
theorem qual_tx {m n:List UInt8} (hm:Qm m) (hn:Nm n) {v:List UInt8} {K:List (List UInt8)} (hv:Calm v) (hk:Toks v K):Toks (qualT m n ++ v) (qualK m n ++ K):=by
 rw [qualT,qualK]
 split
 ·exact tk_nm hn hv hk
 ·rename_i h
  simp only [List.append_assoc,List.cons_append,List.nil_append]
  exact tk_nm (hm.resolve_left h) (calm_cons (by decide) _) (tk_mark (t:=[46]) (by decide) (tk_nm hn hv hk))
theorem text_tx : ∀ x:E,WF x→TX x
 | .num _ n,h=>by
  intro v K hv hk
  exact tk_word (.inr (itoa_num h.1)) hv hk
 | .var _ m n,h=>by
  intro v K hv hk
  exact qual_tx h.1 h.2 hv hk
 | .item _ m n i,h=>by
  intro v K hv hk
  have ih:=text_tx i h.2.2.1
  simp only [text,toks,List.append_assoc,List.cons_append,List.nil_append]
  exact qual_tx h.1 h.2.1 (calm_cons (by decide) _) (tk_mark (t:=[91]) (by decide) (ih _ _ (calm_cons (by decide) v) (tk_mark (t:=[93]) (by decide) hk)))
 | .app _ m n l,h=>by
  intro v K hv hk
  have ih:=text_tx l h.2.2.1
  simp only [text,toks,List.append_assoc,List.cons_append,List.nil_append]
  exact qual_tx h.1 h.2.1 (calm_cons (by decide) _) (tk_mark (t:=[40]) (by decide) (ih _ _ (calm_cons (by decide) v) (tk_mark (t:=[41]) (by decide) hk)))
 | .un _ op x,h=>by
  intro v K hv hk
  have ih:=within_tx (lv:=5) (text_tx x h.2.1) hv hk
  rcases h.1 with rfl | rfl
  ·simp only [text,toks,List.append_assoc]
   rw [if_neg (by decide)]
   exact tk_mark (t:=[45]) (by decide) ih
  ·simp only [text,toks,List.append_assoc,if_true]
   exact tk_kw (t:=[110,111,116]) (b:=32) (by decide) (by decide) (.gap (by decide) ih)
 | .bin _ op x y,h=>by
  intro v K hv hk
  obtain ⟨k,h1,h2⟩:=h.1
  have hx:=text_tx x h.2.1.1
  have hy:=within_tx (lv:=opLevel op + 1) (text_tx y h.2.2.1) hv hk
  have ho:IsTok op:=(op_tok k h1 op h2).elim (fun h=>.inl (is_word h)) (fun h=>.inr (.inr h))
  simp only [text,toks,List.append_assoc,List.cons_append,List.nil_append]
  exact within_tx hx (calm_cons (by decide) _) (.gap (by decide) (tk_gap ho (by decide) hy))
 | .nil,_=>by intro v K _ hk; exact hk
 | .cons x .nil,h=>by
  intro v K hv hk
  exact text_tx x h.1.1 v K hv hk
 | .cons x (.cons y r),h=>by
  intro v K hv hk
  have ih:=text_tx (.cons y r) h.2.1 v K hv hk
  have hx:=text_tx x h.1.1
  rw [text,toks]
  ·simp only [List.append_assoc,List.cons_append,List.nil_append]
   exact hx _ _ (calm_cons (by decide) _) (tk_mark (t:=[44]) (by decide) (.gap (c:=32) (by decide) ih))
  ·intro h; cases h
  ·intro h; cases h
theorem line_tx {d lv:Nat} {x:E} (h:Fits d lv x) {v:List UInt8} {K:List (List UInt8)} (hk:Toks v K):Toks (text x ++ ([59,10] ++ v)) (toks x ++ [59] :: K):=
 text_tx x h.1.1 _ _ (calm_cons (by decide) _) (tk_mark (t:=[59]) (by decide) (.gap (c:=10) (by decide) hk))
def Gaps (tab:List UInt8):Prop:=∀ x∈tab,gap x=true
theorem gaps_more {tab:List UInt8} (h:Gaps tab):Gaps (tab ++ [32,32]):=by
 intro x hx
 rcases List.mem_append.mp hx with hx | hx
 ·exact h x hx
 ·have : ∀ x∈[32,32],gap x=true:=by decide
  exact this x hx
theorem end_tx {tab v:List UInt8} {K:List (List UInt8)} (ht:Gaps tab) (hk:Toks v K):Toks (tab ++ ([101,110,100,59,10] ++ v)) ([101,110,100] :: [59] :: K):=
 toks_gaps ht (tk_kw (t:=[101,110,100]) (b:=59) (by decide) (by decide) (tk_mark (t:=[59]) (by decide) (.gap (c:=10) (by decide) hk)))
theorem stmts_tx : ∀ (s:S) (d:Nat),WFS d s → ∀ tab v K,Gaps tab→Toks v K→Toks (stmtsT s tab ++ v) (stmtK s ++ K)
 | .nil,_,_=>by intro tab v K _ hk; exact hk
 | .set _ n i x r,d,h=>by
  intro tab v K ht hk
  have ih:=stmts_tx r d h.2.2.2 tab v K ht hk
  simp only [stmtsT,stmtK,List.append_assoc,List.cons_append,List.nil_append]
  have h1:Toks ([32,58,61,32] ++ (text x ++ ([59,10] ++ (stmtsT r tab ++ v)))) ([58,61] :: (toks x ++ [59] :: (stmtK r ++ K))):=
   .gap (c:=32) (by decide) (tk_mark (t:=[58,61]) (by decide) (.gap (c:=32) (by decide) (line_tx h.2.2.1 ih)))
  refine toks_gaps ht (tk_nm h.1 ?_ ?_)
  ·cases i with
   | none=>exact calm_cons (by decide) _
   | some j=>exact calm_cons (by decide) _
  ·cases i with
   | none=>exact h1
   | some j=>
    simp only [indexK,List.append_assoc,List.cons_append,List.nil_append] at h1 ⊢
    exact tk_mark (t:=[91]) (by decide) (text_tx j (h.2.1 j rfl).1.1 _ _ (calm_cons (by decide) _) (tk_mark (t:=[93]) (by decide) h1))
 | .ret _ x r,d,h=>by
  intro tab v K ht hk
  have ih:=stmts_tx r d h.2 tab v K ht hk
  simp only [stmtsT,stmtK,List.append_assoc,List.cons_append,List.nil_append]
  exact toks_gaps ht (tk_kw (t:=[114,101,116,117,114,110]) (b:=32) (by decide) (by decide) (.gap (by decide) (line_tx h.1 ih)))
 | .wri _ x r,d,h=>by
  intro tab v K ht hk
  have ih:=stmts_tx r d h.2 tab v K ht hk
  simp only [stmtsT,stmtK,List.append_assoc,List.cons_append,List.nil_append]
  exact toks_gaps ht (tk_kw (t:=[119,114,105,116,101]) (b:=32) (by decide) (by decide) (.gap (by decide) (line_tx h.1 ih)))
 | .call _ x r,d,h=>by
  intro tab v K ht hk
  have ih:=stmts_tx r d h.2 tab v K ht hk
  simp only [stmtsT,stmtK,List.append_assoc,List.cons_append,List.nil_append]
  exact toks_gaps ht (line_tx h.1.1 ih)
 | .whil _ x t r,d,h=>by
  intro tab v K ht hk
  have ih:=stmts_tx r d h.2.2 tab v K ht hk
  have iht:=stmts_tx t (d - 1) h.2.1.2 (tab ++ [32,32]) _ _ (gaps_more ht) (end_tx ht ih)
  simp only [stmtsT,stmtK,List.append_assoc,List.cons_append,List.nil_append] at iht ⊢
  exact toks_gaps ht (tk_kw (t:=[119,104,105,108,101]) (b:=32) (by decide) (by decide) (.gap (by decide) (text_tx x h.1.1.1 _ _ (calm_cons (by decide) _) (.gap (c:=32) (by decide) (tk_kw (t:=[100,111]) (b:=10) (by decide) (by decide) (.gap (by decide) iht))))))
 | .ifs _ x t e r,d,h=>by
  intro tab v K ht hk
  have ih:=stmts_tx r d h.2.2 tab v K ht hk
  have he:Toks ((if e.isNil then [] else tab ++ [101,108,115,101,10] ++ stmtsT e (tab ++ [32,32])) ++ (tab ++ ([101,110,100,59,10] ++ (stmtsT r tab ++ v)))) ((if e.isNil then [] else [101,108,115,101] :: stmtK e) ++ [101,110,100] :: [59] :: (stmtK r ++ K)):=by
   have ihe:=stmts_tx e (d - 1) h.2.1.2.2 (tab ++ [32,32]) _ _ (gaps_more ht) (end_tx ht ih)
   split
   ·exact end_tx ht ih
   ·simp only [List.append_assoc,List.cons_append,List.nil_append] at ihe ⊢
    exact toks_gaps ht (tk_kw (t:=[101,108,115,101]) (b:=10) (by decide) (by decide) (.gap (by decide) ihe))
  have iht:=stmts_tx t (d - 1) h.2.1.1.2 (tab ++ [32,32]) _ _ (gaps_more ht) he
  simp only [stmtsT,stmtK,List.append_assoc,List.cons_append,List.nil_append] at iht ⊢
  exact toks_gaps ht (tk_kw (t:=[105,102]) (b:=32) (by decide) (by decide) (.gap (by decide) (text_tx x h.1.1.1 _ _ (calm_cons (by decide) _) (.gap (c:=32) (by decide) (tk_kw (t:=[116,104,101,110]) (b:=10) (by decide) (by decide) (.gap (by decide) iht))))))
theorem star_tx {b:Bool} {v:List UInt8} {K:List (List UInt8)} (hk:Toks v K):Toks (star b ++ v) (starK b ++ K):=by
 cases b with
 | false=>exact hk
 | true=>exact tk_mark (t:=[42]) (by decide) hk
theorem star_calm {b:Bool} {v:List UInt8} (hv:Calm v):Calm (star b ++ v):=by
 cases b with
 | false=>exact hv
 | true=>exact calm_cons (by decide) _
theorem glob_tx {g:Glob} (h:WFG g) {v:List UInt8} {K:List (List UInt8)} (hk:Toks v K):Toks (globT g ++ v) (globK g ++ K):=by
 have h1:Toks ((if 0 < g.len then [97,114,114,97,121,32] ++ Lib.itoa g.len else [105,110,116]) ++ ([59,10] ++ v)) ((if 0 < g.len then [[97,114,114,97,121],Lib.itoa g.len] else [[105,110,116]]) ++ [59] :: K):=by
  have h2:Toks ([59,10] ++ v) ([59] :: K):=tk_mark (t:=[59]) (by decide) (.gap (c:=10) (by decide) hk)
  split
  ·rename_i h3
   simp only [List.cons_append,List.nil_append] at h2 ⊢
   exact tk_kw (t:=[97,114,114,97,121]) (b:=32) (by decide) (by decide) (.gap (by decide) (tk_word (.inr (itoa_num h.low)) (calm_cons (by decide) _) h2))
  ·exact tk_kw (t:=[105,110,116]) (b:=59) (by decide) (by decide) h2
 simp only [globT,globK,List.append_assoc,List.cons_append,List.nil_append] at h1 ⊢
 exact tk_kw (t:=[118,97,114]) (b:=32) (by decide) (by decide) (.gap (by decide) (tk_nm h.name (star_calm (calm_cons (by decide) _)) (star_tx (tk_colon h1))))
theorem join_more (x y:List UInt8) (r:List (List UInt8)) (s:List UInt8):Lib.join (x :: y :: r) s=x ++ (s ++ Lib.join (y :: r) s):=by
 rw [Lib.join_cons,Lib.join_cons]
 simp [Lib.joinTail]
theorem names_tx : ∀ (l:List (List UInt8)),(∀ n∈l,Nm n) → ∀ v K,Calm v→Toks v K→Toks (Lib.join l [44,32] ++ v) (namesK l ++ K)
 | [],_=>by intro v K _ hk; exact hk
 | [n],h=>by
  intro v K hv hk
  rw [Lib.join_one]
  exact tk_nm (h n (by simp)) hv hk
 | n :: m :: r,h=>by
  intro v K hv hk
  have ih:=names_tx (m :: r) (fun x hx=>h x (by simp [hx])) v K hv hk
  rw [join_more]
  simp only [namesK,List.append_assoc,List.cons_append,List.nil_append]
  exact tk_nm (h n (by simp)) (calm_cons (by decide) _) (tk_mark (t:=[44]) (by decide) (.gap (c:=32) (by decide) ih))
theorem heads_tx {w:List UInt8} (hw : wordB w=true) {l:List (List UInt8)} (h : ∀ n∈l,Nm n) {v:List UInt8} {K:List (List UInt8)} (hk:Toks v K):Toks ((if l=[] then [] else w ++ 32 :: Lib.join l [44,32] ++ [59,10]) ++ v) (headK w l ++ K):=by
 rw [headK]
 split
 ·exact hk
 ·simp only [List.append_assoc,List.cons_append,List.nil_append]
  exact tk_kw hw (by decide) (.gap (by decide) (names_tx l h _ _ (calm_cons (by decide) _) (tk_mark (t:=[59]) (by decide) (.gap (c:=10) (by decide) hk))))
theorem block_tx {b:S} (h:WFS 10 b) {m v:List UInt8} (hm : markB m=true) (hw:Calm (m ++ 10 :: v)) {K:List (List UInt8)} (hk:Toks v K):Toks ([98,101,103,105,110,10] ++ (stmtsT b [32,32] ++ ([101,110,100] ++ (m ++ 10 :: v)))) ([98,101,103,105,110] :: (stmtK b ++ [101,110,100] :: m :: K)):=
 tk_kw (t:=[98,101,103,105,110]) (b:=10) (by decide) (by decide) (.gap (by decide) (stmts_tx b 10 h [32,32] _ _ (show ∀ x∈[32,32],gap x=true by decide) (tk_word (.inl (is_word (t:=[101,110,100]) (by decide))) hw (tk_mark hm (.gap (by decide) hk)))))
theorem proc_tx {x:Proc} (h:WFP x) {v:List UInt8} {K:List (List UInt8)} (hk:Toks v K):Toks (procT x ++ v) (procK x ++ K):=by
 have h1:=heads_tx (w:=[118,97,114]) (by decide) h.vars (block_tx h.body (m:=[59]) (by decide) (calm_cons (by decide) _) hk)
 simp only [procT,procK,List.append_assoc,List.cons_append,List.nil_append] at h1 ⊢
 exact tk_kw (t:=[112,114,111,99]) (b:=32) (by decide) (by decide) (.gap (by decide) (tk_nm h.name (star_calm (calm_cons (by decide) _)) (star_tx (tk_mark (t:=[40]) (by decide) (names_tx _ h.params _ _ (calm_cons (by decide) _) (tk_mark (t:=[41]) (by decide) (tk_mark (t:=[59]) (by decide) (.gap (c:=10) (by decide) h1))))))))
theorem flat_tx {α:Type} {f : α→List UInt8} {g : α→List (List UInt8)} {P : α→Prop} (h : ∀ x,P x → ∀ v K,Toks v K→Toks (f x ++ v) (g x ++ K)) : ∀ l:List α,(∀ x∈l,P x) → ∀ v K,Toks v K→Toks (l.flatMap f ++ v) (l.flatMap g ++ K)
 | [],_=>by intro v K hk; exact hk
 | x :: l,hl=>by
  intro v K hk
  rw [List.flatMap_cons,List.flatMap_cons,List.append_assoc,List.append_assoc]
  exact h x (hl x (by simp)) _ _ (flat_tx h l (fun y hy=>hl y (by simp [hy])) v K hk)
theorem module_tx {m:Mod} (h:WFM m):Toks (modT m) (modK m):=by
 have h1:=block_tx h.body (m:=[46]) (by decide) (calm_cons (by decide) _) .nil
 have h2:=flat_tx (f:=procT) (g:=procK) (fun x hx v K hk=>proc_tx hx hk) m.procs h.procs _ _ h1
 have h3:=flat_tx (f:=globT) (g:=globK) (fun x hx v K hk=>glob_tx hx hk) m.vars h.vars _ _ h2
 have h4:=heads_tx (w:=[105,109,112,111,114,116]) (by decide) h.imports h3
 simp only [modT,modK,List.append_assoc,List.cons_append,List.nil_append] at h4 ⊢
 exact tk_kw (t:=[109,111,100,117,108,101]) (b:=32) (by decide) (by decide) (.gap (by decide) (tk_nm h.name (calm_cons (by decide) _) (tk_mark (t:=[59]) (by decide) (.gap (c:=10) (by decide) h4))))
theorem lvl_strip (x:E) : lvl x.strip=lvl x:=by cases x <;> rfl
theorem text_strip : ∀ x:E,text x.strip=text x
 | .num _ _=>rfl
 | .var _ _ _=>rfl
 | .item _ _ _ i=>by simp only [E.strip,text,text_strip i]
 | .un _ _ x=>by simp only [E.strip,text,within,lvl_strip,text_strip x]
 | .bin _ _ x y=>by simp only [E.strip,text,within,lvl_strip,text_strip x,text_strip y]
 | .app _ _ _ l=>by simp only [E.strip,text,text_strip l]
 | .nil=>rfl
 | .cons x r=>by
  have hx:=text_strip x
  have hr:=text_strip r
  cases r <;> simp only [E.strip,text,hx] at hr ⊢ <;> rw [hr]
theorem stmts_strip : ∀ (s:S) (tab:List UInt8),stmtsT s.strip tab=stmtsT s tab
 | .nil,_=>rfl
 | .set _ _ i _ r,tab=>by cases i <;> simp only [S.strip,stmtsT,Option.map,text_strip,stmts_strip r]
 | .ifs _ _ t e r,tab=>by simp only [S.strip,stmtsT,text_strip,strip_nil,stmts_strip t,stmts_strip e,stmts_strip r]
 | .whil _ _ t r,tab=>by simp only [S.strip,stmtsT,text_strip,stmts_strip t,stmts_strip r]
 | .ret _ _ r,tab=>by simp only [S.strip,stmtsT,text_strip,stmts_strip r]
 | .wri _ _ r,tab=>by simp only [S.strip,stmtsT,text_strip,stmts_strip r]
 | .call _ _ r,tab=>by simp only [S.strip,stmtsT,text_strip,stmts_strip r]
theorem mod_strip (m:Mod) : modT m.strip=modT m:=by
 have h1 : globT ∘ Glob.strip=globT:=rfl
 have h2 : procT ∘ Proc.strip=procT:=by funext x; simp only [Function.comp,procT,Proc.strip,stmts_strip]; rfl
 simp only [modT,Mod.strip,List.flatMap_map,stmts_strip]
 rw [show (fun a=>globT a.strip)=globT from h1,show (fun a=>procT a.strip)=procT from h2]; rfl
theorem back {s u:List UInt8} {m:Mod} (hs : s.length≤550) (h : parse s = .ok m) (hu:Spread (modT m) u) : ∃ m',parse u = .ok m'∧modT m'=modT m∧m'.imports=m.imports∧m'.vars.length=m.vars.length∧m'.procs.length=m.procs.length:=by
 obtain ⟨hw,hl⟩:=parse_sp h
 obtain ⟨ts,h1,h2⟩:=lexL_toks (toks_spread (module_tx hw) u hu) u.length 0 0 (Nat.le_refl _) (by omega)
 obtain ⟨m',e1,e2⟩:=module_rt (z:=u.length) hw (beg_are _ _ h2)
 refine ⟨m',?_,?_,(congrArg Mod.imports e1 :),?_,?_⟩
 ·rw [parse,lex,h1]; simp only [e2]
 ·rw [← mod_strip m',e1,mod_strip]
 ·simpa [Mod.strip] using congrArg (fun m:Mod=>m.vars.length) e1
 ·simpa [Mod.strip] using congrArg (fun m:Mod=>m.procs.length) e1
end Go.Mq.Tree
