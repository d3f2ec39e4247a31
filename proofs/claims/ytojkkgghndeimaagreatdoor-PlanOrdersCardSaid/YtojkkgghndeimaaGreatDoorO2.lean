/- Some texts in one. -/
import Derived.OpenShut
import Derived.LaidLaws
import Derived.MakeChecks
import Derived.Test.YtojkkgghndeimaaGreatDoorO1
namespace Go.Mq.Tree
open Go Go.RowKit Go.Mq Go.WideShapes Go.ChangeShapes
theorem laid_ofO {l:List (String × DataW Unit)} {W:World} (h : laidMetH Go.Proofs.Tryz.prog l W) (hh : (l.all fun x=>x.2.handleName?.isNone)=true)
  (h1 : ("internal/strconv.uint64pow10",Lib.tabData .u64 Lib.pow10Tab)∈l) (h2 : ∃ nm d,("strconv.ErrRange",.iface nm d)∈l) (h3 : ∃ nm d,("strconv.ErrSyntax",.iface nm d)∈l):Laid W W.heap.size:=by
 rw [Go.MakeChecks.laidMetH_plain _ _ _ hh] at h
 obtain ⟨ps,hv,_,_⟩:=h
 have err : ∀ (n:String) (g:Nat) (t:TypeId) (ms:Array (String × TypeId)),Go.Proofs.Tryz.prog.globalNamed n=some g→(Go.Proofs.Tryz.prog.globals[g]?).map (·.type)=some t→Go.Proofs.Tryz.prog.underlying t=some (.interface ms)→(∃ nm d,(n,.iface nm d)∈l) →
   ∃ ev,W.cell? ⟨g,0,none⟩=some ev∧(ev = .nilIface ∨ ∃ te pe,ev = .iface te pe):=by
  rintro n g t ms hg hty hu ⟨nm,d,hm⟩
  obtain ⟨g',t',cs,fuel,p,e1,e2,e3,e4⟩:=laid_var hm hv
  obtain rfl:=Option.some.inj (hg.symm.trans e1)
  obtain rfl:=Option.some.inj (hty.symm.trans e2)
  obtain ⟨_,u,v,hcs,_⟩:=iface_of_trod hu e4
  refine ⟨.iface u v,?_,.inr ⟨u,v,rfl⟩⟩
  rw [World.var?_cell hg e3 0,← Array.getElem?_toList,hcs]
  rfl
 obtain ⟨g1,t1,c1,f1,p1,a1,b1,d1,e1⟩:=laid_var h1 hv
 have x1:=Option.some.inj ((show Go.Proofs.Tryz.prog.globalNamed "internal/strconv.uint64pow10" = some 8 by kernel_rfl).symm.trans a1)
 subst x1
 have y1:=Option.some.inj ((show (Go.Proofs.Tryz.prog.globals[8]?).map (·.type)=some 292 by kernel_rfl).symm.trans b1)
 subst y1
 have m1:Lib.TabIs Go.Proofs.Tryz.prog W "internal/strconv.uint64pow10" .u64 Lib.pow10Tab:=by
  unfold Lib.TabIs
  rw [d1,← Lib.cells_of_tab Go.Proofs.Tryz.underlying292 Go.Proofs.Tryz.underlying157 (by kernel_rfl) (by kernel_rfl) e1]
 have r1:=err "strconv.ErrRange" 7 38 _ (by kernel_rfl) (by kernel_rfl) Go.Proofs.Tryz.underlying38 h2
 have r2:=err "strconv.ErrSyntax" 6 38 _ (by kernel_rfl) (by kernel_rfl) Go.Proofs.Tryz.underlying38 h3
 have lt1 : 8 < W.heap.size:=by
  have:=Lib.TabIs.cell m1 a1 0 (by decide)
  exact lt_of_cell this
 exact ⟨Nat.le_refl _,r1,(by obtain ⟨_,hc,_⟩:=r1; exact lt_of_cell hc),r2,(by obtain ⟨_,hc,_⟩:=r2; exact lt_of_cell hc),m1,lt1⟩
end Go.Mq.Tree
