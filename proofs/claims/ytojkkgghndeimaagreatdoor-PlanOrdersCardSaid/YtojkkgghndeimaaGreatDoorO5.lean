/- Some texts in one. -/
import Derived.Test.YtojkkgghndeimaaGreatDoorO4
namespace Go.Mq.Ref
open Go Go.RowKit Go.Mq Go.Mq.Tree
theorem find_len {n:Nat} {l:List UInt8} : ∀ {L:List (List UInt8)},(∀ m∈L,m.length=n)→(L.find? fun m=>m.isPrefixOf l).map List.length=if n≤l.length∧l.take n∈L then some n else none
 | [],_=>by simp
 | m :: r,h=>by
  have hm:=h m (by simp)
  rw [List.find?_cons]
  cases hp : m.isPrefixOf l with
  | true=>
   obtain ⟨t,rfl⟩:=List.isPrefixOf_iff_prefix.1 hp
   simp only [Option.map_some,hm]
   rw [if_pos]
   refine ⟨by simp; omega,?_⟩
   have : (m ++ t).take n=m:=by rw [← hm,List.take_left']; rfl
   rw [this]; simp
  | false=>
   simp only
   rw [find_len fun x hx=>h x (by simp [hx])]
   have : ¬ (n≤l.length∧l.take n=m):=fun ⟨h1,h2⟩=>by
    have : m.isPrefixOf l=true:=List.isPrefixOf_iff_prefix.2 ⟨l.drop n,by rw [← h2]; exact List.take_append_drop n l⟩
    rw [this] at hp; cases hp
   by_cases hn : n≤l.length
   ·have h2 : l.take n≠m:=fun e=>this ⟨hn,e⟩
    simp [hn,h2]
   ·simp [hn]
def markN (l:List UInt8):Nat:=if 2≤l.length∧marks.contains (l.take 2)=true then 2 else if 1≤l.length∧marks.contains (l.take 1)=true then 1 else 0
theorem mark_is (l:List UInt8) : ((marks.find? fun m=>m.isPrefixOf l).map List.length).getD 0=markN l:=by
 have h2:=find_len (n:=2) (l:=l) (L:=marks.take 3) (by decide)
 have h1:=find_len (n:=1) (l:=l) (L:=marks.drop 3) (by decide)
 have e : marks=marks.take 3 ++ marks.drop 3:=by rw [List.take_append_drop]
 have hm2 : ∀ s:List UInt8,s.length=2→(marks.contains s=true↔s∈marks.take 3):=fun s hs=>by
  have hd : s∉marks.drop 3:=fun hm=>by
   have : ∀ m∈marks.drop 3,m.length=1:=by decide
   have:=this s hm; omega
  rw [List.contains_iff_mem,e,List.mem_append]
  simp only [← e]
  exact ⟨fun h=>h.resolve_right hd,.inl⟩
 have hm1 : ∀ s:List UInt8,s.length=1→(marks.contains s=true↔s∈marks.drop 3):=fun s hs=>by
  have hd : s∉marks.take 3:=fun hm=>by
   have : ∀ m∈marks.take 3,m.length=2:=by decide
   have:=this s hm; omega
  rw [List.contains_iff_mem,e,List.mem_append]
  simp only [← e]
  exact ⟨fun h=>h.resolve_left hd,.inr⟩
 rw [e,List.find?_append,Option.map_or,h2,h1,markN]
 have e2 : (2≤l.length∧marks.contains (l.take 2)=true)↔(2≤l.length∧l.take 2∈marks.take 3):=and_congr_right fun h=>hm2 _ (by simp; omega)
 have e1 : (1≤l.length∧marks.contains (l.take 1)=true)↔(1≤l.length∧l.take 1∈marks.drop 3):=and_congr_right fun h=>hm1 _ (by simp; omega)
 simp only [e2,e1]
 split
 ·rfl
 ·split <;> rfl
end Go.Mq.Ref
