/- Some texts in one. -/
import Derived.Test.YtilhhkokdfajiaaGreatDoorI7
import Derived.Test.YtilhhkokdfajiaaGreatDoorI10
import Derived.Test.YtilhhkokdfajiaaGreatDoorI11
namespace Go.Mq.Sym
open Go Go.RowKit Go.Mq Go.Mq.Tree
theorem seenL_len {vs:List Glob} {ps:List Proc} (hv : vs.length≤10) (hp : ps.length≤10) : (insSort (seenL vs ps)).length≤20:=by
 rw [insSort_length,seenL,List.length_append,List.length_map,List.length_map]
 have h1:=List.length_filter_le (fun g:Glob=>g.seen) vs
 have h2:=List.length_filter_le (fun g:Proc=>g.seen) ps
 omega
abbrev Holds (w:World) (e:Ending) (w':World):Prop:=e = .returned (.bool true)∧Chg [] w w'
end Go.Mq.Sym
namespace Go.Mq.Sym
open Go Go.RowKit Go.Mq Go.Mq.Tree
theorem mod_parts {w:World} {F:Nat→Prop} {m:Mod} {v:Value} (h:ModAt w F m v) : ∃ (ai:Option Addr) (ci:Nat) (av:Option Addr) (cv:Nat) (ap:Option Addr) (cp:Nat) (ab:Option Addr) (cb:Nat),v = .agg #[str m.name,.slice ai m.imports.length ci,.slice av m.vars.length cv,.slice ap m.procs.length cp,.slice ab m.body.len cb]∧GlobsAt w F m.vars (.slice av m.vars.length cv)∧ProcsL w F m.procs (.slice ap m.procs.length cp):=by
 obtain ⟨vi,vv,vp,vb,rfl,⟨ai,ci,rfl,_⟩,⟨av,cv,rfl,h1,h2⟩,hp,⟨ab,cb,_,rfl,_⟩⟩:=h
 have hp':=procsL_of hp
 obtain ⟨ap,cp,cs,rfl,h3,h4,h5⟩:=hp'
 exact ⟨ai,ci,av,cv,ap,cp,ab,cb,rfl,⟨av,cv,rfl,h1,h2⟩,⟨ap,cp,cs,rfl,h3,h4,h5⟩⟩
end Go.Mq.Sym
