/- Some texts in one. -/
import Derived.Lib.IndexMore
import Derived.Test.YtojkkgghndeimaaGreatDoorO1
namespace Go.Mq.Ref
open Go Go.RowKit Go.Mq Go.Mq.Tree
theorem contains_nil (c:UInt8) (x:List UInt8):Lib.contains [] (c :: x)=false:=rfl
theorem contains_cons (b:UInt8) (l x:List UInt8):Lib.contains (b :: l) x=(x.isPrefixOf (b :: l) || Lib.contains l x):=by
 unfold Lib.contains
 rw [Lib.index]
 cases h : x.isPrefixOf (b :: l) with
 | true=>simp
 | false=>
  have:=Lib.index_ge l x
  simp only [Bool.false_or,Bool.false_eq_true,if_false]
  split
  ·next h1=>rw [beq_iff_eq] at h1; rw [h1]
  ·next h1=>
   rw [beq_iff_eq] at h1
   rw [decide_eq_true (by omega : 0≤Lib.index l x + 1),decide_eq_true (by omega : 0≤Lib.index l x)]
theorem contains_skip {c:UInt8} {x t:List UInt8} : ∀ {w:List UInt8},c∉w→Lib.contains (w ++ t) (c :: x)=Lib.contains t (c :: x)
 | [],_=>rfl
 | b :: w,h=>by
  simp only [List.mem_cons,not_or] at h
  rw [List.cons_append,contains_cons,contains_skip h.2]
  have : (c == b)=false:=by simpa using h.1
  simp [List.isPrefixOf,this]
def flatW (ws:List (List UInt8)):List UInt8:=ws.flatMap fun w=>w ++ [32]
theorem prefix_word {s w t:List UInt8} (hs : (32:UInt8)∉s) (hw : (32:UInt8)∉w) : (s ++ [32]).isPrefixOf (w ++ 32 :: t)=(s == w):=by
 induction s generalizing w with
 | nil=>
  cases w with
  | nil=>simp [List.isPrefixOf]
  | cons b w=>
   have : ((32:UInt8) == b)=false:=by
    rw [beq_eq_false_iff_ne]; intro e; exact hw (by simp [e])
   simp [List.isPrefixOf,this]
 | cons a s ih=>
  simp only [List.mem_cons,not_or] at hs
  cases w with
  | nil=>
   have : (a == (32:UInt8))=false:=by
    rw [beq_eq_false_iff_ne]; intro e; exact hs.1 e.symm
   simp [List.isPrefixOf,this]
  | cons b w=>
   simp only [List.mem_cons,not_or] at hw
   have:=ih hs.2 hw.2
   simp only [List.cons_append,List.isPrefixOf,this]
   rfl
theorem contains_word {s:List UInt8} (hs : (32:UInt8)∉s) : ∀ {ws:List (List UInt8)},(∀ w∈ws,(32:UInt8)∉w)→Lib.contains (32 :: flatW ws) (32 :: (s ++ [32]))=ws.contains s
 | [],_=>by
  rw [contains_cons]
  cases s <;> simp [flatW,List.isPrefixOf,contains_nil]
 | w :: r,h=>by
  have hw:=h w (by simp)
  have e : flatW (w :: r)=w ++ 32 :: flatW r:=by simp [flatW]
  rw [contains_cons,e,contains_skip hw,contains_word hs (fun x hx=>h x (by simp [hx]))]
  rw [List.isPrefixOf,prefix_word hs hw,List.contains_cons]
  simp
theorem contains_blank {s:List UInt8} : Lib.contains s [32]=decide ((32:UInt8)∈s):=by
 induction s with
 | nil=>rfl
 | cons b s ih=>
  rw [contains_cons,ih]
  by_cases hb : (32:UInt8)=b
  ·subst hb; simp [List.isPrefixOf]
  ·have : ((32:UInt8) == b)=false:=by simpa using hb
   simp [List.isPrefixOf,this,hb]
def oneL (s:List UInt8) (ws:List (List UInt8)):Bool:=s != [] && !decide ((32:UInt8)∈s) && ws.contains s
theorem one_words {s:List UInt8} {ws:List (List UInt8)} (h : ∀ w∈ws,w≠[]∧(32:UInt8)∉w) : oneL s ws=ws.contains s:=by
 unfold oneL
 cases hc : ws.contains s with
 | false=>simp
 | true=>
  obtain ⟨h1,h2⟩:=h s (by simpa using hc)
  simp [h1,h2]
end Go.Mq.Ref
