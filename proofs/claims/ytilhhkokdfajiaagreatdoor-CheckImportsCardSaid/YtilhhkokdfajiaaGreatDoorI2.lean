/- Some texts in one. -/
import Derived.Test.YtilhhkokdfajiaaGreatDoorProg
import Derived.WalkKit
import Derived.LaidEql
import Derived.Stop.Asserts
import Derived.RowKitTokens
import Derived.Test.YtilhhkokdfajiaaGreatDoorI0
namespace Go.Proofs.YtilhhkokdfajiaaGreatDoor
open Go Go.RowKit Go.Extern.Stop Go.Stop Go.Extern Go.Mq
theorem apiValueOfP (t:Addr) (w:World) : (ReflectliteValue.unpack (.iface 91 (.pointer (some t)))).run Tryz.prog w
  = .ok (.agg #[.pointer (some ⟨9,91,none⟩),.pointer (some ⟨w.heap.size,0,none⟩),.int .u64 150]) (w.alloc (.cells #[.pointer (some t)] 91)):=by kernel_rfl
theorem apiTypeP (a:Addr) (w:World) : (ReflectliteValue.methodAny (ReflectliteValue.valueError "reflectlite.Value.Type" 0) (fun t _ _ _=>ReflectliteType.toType t) #[.agg #[.pointer (some ⟨9,91,none⟩),.pointer (some a),.int .u64 150]]).run Tryz.prog w
  = .ok (.iface 145 (.agg #[.pointer (some ⟨9,91,none⟩)])) w:=by kernel_rfl
theorem apiMethodKind (h:Value) (w:World) : (Go.method 341 145 (.agg #[h]) "Kind").run Tryz.prog w = .ok (146,h) w:=by kernel_rfl
theorem apiKindP (w:World) : ((ReflectliteType.abiMethod fun t=>(fun a:Nat=>Value.int IntKind.u8 (a:Int)) <$> Rtype.kind t) #[.pointer (some ⟨9,91,none⟩)]).run Tryz.prog w = .ok (.int .u8 22) w:=by kernel_rfl
theorem apiKindE (w:World) : ((ReflectliteType.abiMethod fun t=>(fun a:Nat=>Value.int IntKind.u8 (a:Int)) <$> Rtype.kind t) #[.pointer (some ⟨9,48,none⟩)]).run Tryz.prog w = .ok (.int .u8 2) w:=by kernel_rfl
theorem api_rlm (z:Sem Value) (f:TypeId→Addr→Nat→Nat→Sem Value) (v:Value) :
  ReflectliteValue.method z f #[v]=(do match ← ReflectliteValue.parts v with | none=>z | some (t,a,fl)=>f t a fl (fl % 32)):=rfl
theorem apiPartsP (a:Addr) (w:World) : (ReflectliteValue.parts (.agg #[.pointer (some ⟨9,91,none⟩),.pointer (some a),.int .u64 150])).run Tryz.prog w = .ok (some (91,a,150)) w:=by kernel_rfl
theorem apiIsNilP (a p:Addr) (W:World) (ha:W.cell? a=some (.pointer (some p))) :
  (ReflectliteValue.method (ReflectliteValue.valueError "reflectlite.Value.IsNil" 0) ReflectliteValue.isNil #[.agg #[.pointer (some ⟨9,91,none⟩),.pointer (some a),.int .u64 150]]).run Tryz.prog W = .ok (.bool false) W:=by
 rw [api_rlm]
 simp only [Sem.run_bind,apiPartsP,Result.andThen]
 simp [ReflectliteValue.isNil,loadVar,isAgg,underlying,Tryz.underlying91,ha,Result.andThen]
theorem apiMethodElem (h:Value) (w:World) : (Go.method 341 145 (.agg #[h]) "Elem").run Tryz.prog w = .ok (158,.agg #[h]) w:=by kernel_rfl
theorem apiMethodImplements (h:Value) (w:World) : (Go.method 341 145 (.agg #[h]) "Implements").run Tryz.prog w = .ok (159,.agg #[h]) w:=by kernel_rfl
theorem apiMethodAssignableTo (h:Value) (w:World) : (Go.method 341 145 (.agg #[h]) "AssignableTo").run Tryz.prog w = .ok (156,.agg #[h]) w:=by kernel_rfl
theorem apiElemP (w:World) : (ReflectliteType.method ReflectliteType.elem #[.agg #[.pointer (some ⟨9,91,none⟩)]]).run Tryz.prog w = .ok (.iface 145 (.agg #[.pointer (some ⟨9,48,none⟩)])) w:=by kernel_rfl
theorem apiImplementsE (w:World) : (ReflectliteType.relation "Implements" ReflectliteType.implements_ #[.agg #[.pointer (some ⟨9,48,none⟩)],.iface 145 (.agg #[.pointer (some ⟨9,31,none⟩)])]).run Tryz.prog w = .ok (.bool true) w:=by kernel_rfl
theorem apiTypeOfE (v:Value) (w:World) : (ReflectliteType.typeOf #[.iface 48 v]).run Tryz.prog w = .ok (.iface 145 (.agg #[.pointer (some ⟨9,48,none⟩)])) w:=by kernel_rfl
theorem apiAssignableE (w:World) : (ReflectliteType.relation "AssignableTo" ReflectliteType.assignableTo #[.agg #[.pointer (some ⟨9,48,none⟩)],.iface 145 (.agg #[.pointer (some ⟨9,48,none⟩)])]).run Tryz.prog w = .ok (.bool true) w:=by kernel_rfl
theorem apiValueOfE (n:Int) (w:World) : (ReflectliteValue.unpack (.iface 48 (.int .i64 n))).run Tryz.prog w
  = .ok (.agg #[.pointer (some ⟨9,48,none⟩),.pointer (some ⟨w.heap.size,0,none⟩),.int .u64 130]) (w.alloc (.cells #[.int .i64 n] 48)):=by kernel_rfl
theorem apiElemOfP (w:World) : (Rtype.elem? 91).run Tryz.prog w = .ok (some 48) w:=by kernel_rfl
theorem apiMkE (p:Addr) (w:World) : (ReflectliteValue.mk 48 p ReflectliteValue.flagAddr).run Tryz.prog w = .ok (.agg #[.pointer (some ⟨9,48,none⟩),.pointer (some p),.int .u64 386]) w:=by kernel_rfl
theorem apiElemVP (a p:Addr) (W:World) (ha:W.cell? a=some (.pointer (some p))) :
  (ReflectliteValue.method (ReflectliteValue.valueError "reflectlite.Value.Elem" 0) ReflectliteValue.elem #[.agg #[.pointer (some ⟨9,91,none⟩),.pointer (some a),.int .u64 150]]).run Tryz.prog W
   = .ok (.agg #[.pointer (some ⟨9,48,none⟩),.pointer (some p),.int .u64 386]) W:=by
 rw [api_rlm]
 simp only [Sem.run_bind,apiPartsP,Result.andThen]
 simp [ReflectliteValue.elem,loadVar,isAgg,underlying,Tryz.underlying91,ha,Result.andThen,apiElemOfP,apiMkE]
theorem api_rls (v x:Value):ReflectliteValue.set #[v,x]=(do
  let (some (dst,a,fl),some (src,b,_)):=(← ReflectliteValue.parts v,← ReflectliteValue.parts x)
   | unsupported (.noEntry "extern/(internal/reflectlite.Value).Set.zeroValue")
  if fl / ReflectliteValue.flagAddr % 2 == 0 then unsupported (.noEntry "extern/(internal/reflectlite.Value).Set.unaddressable")
  let val ← loadVar src b
  if ← Rtype.directlyAssignable dst src then storeVar dst a val
  else if ← Rtype.implements dst src then
   if (← Rtype.kind src) == 20 then
    match val with
    | .nilIface=>unsupported (.noEntry "extern/reflectlite: a nil value of one interface type handed on as a value of another")
    | _=>storeVar dst a val
   else storeVar dst a (.iface src val)
  else panicString ("reflectlite.Set: value of type " ++ (← Rtype.spelt src) ++ " is not assignable to type " ++ (← Rtype.spelt dst))
  pure (.tuple #[])):=rfl
theorem apiPartsEA (a:Addr) (w:World) : (ReflectliteValue.parts (.agg #[.pointer (some ⟨9,48,none⟩),.pointer (some a),.int .u64 386])).run Tryz.prog w = .ok (some (48,a,386)) w:=by kernel_rfl
theorem apiPartsE (a:Addr) (w:World) : (ReflectliteValue.parts (.agg #[.pointer (some ⟨9,48,none⟩),.pointer (some a),.int .u64 130])).run Tryz.prog w = .ok (some (48,a,130)) w:=by kernel_rfl
theorem apiDirectE (w:World) : (Rtype.directlyAssignable 48 48).run Tryz.prog w = .ok true w:=by kernel_rfl
theorem apiSetE (ta b:Addr) (n:Int) (old:Value) (W:World) (hb:W.cell? b=some (.int .i64 n)) (ht:W.cell? ta=some old) (hf:W.frozen? ta=false) :
  (ReflectliteValue.set #[.agg #[.pointer (some ⟨9,48,none⟩),.pointer (some ta),.int .u64 386],.agg #[.pointer (some ⟨9,48,none⟩),.pointer (some b),.int .u64 130]]).run Tryz.prog W
   = .ok (.tuple #[]) (W.setCell ta (.int .i64 n)):=by
 rw [api_rls]
 simp only [Sem.run_bind,apiPartsEA,apiPartsE,Result.andThen]
 simp [ReflectliteValue.flagAddr,loadVar,isAgg,underlying,Tryz.underlying48,hb,Result.andThen,apiDirectE,storeVar,Value.cells,storeCells,Addr.add]
 rw [run_store Tryz.prog W ta _ _ (by rfl)]
 simp [ht,hf]
set_option maxHeartbeats 4000000 in
theorem as_hit (n:Int) (t:Addr) (old:Value) (w:World) (hg : w.cell? ⟨0,0,none⟩=some (.iface 145 (.agg #[.pointer (some ⟨9,31,none⟩)]))) (ht0 : w.cell? t=some old) (hf0 : w.frozen? t=false) :
  Calls Tryz.prog 33 #[.iface 48 (.int .i64 n),.iface 91 (.pointer (some t))] w fun ev w'=>ev = .returned (.bool true)∧w'=((((w.alloc (.cells #[.pointer (some t)] 91)).alloc (.cells #[.pointer (some ⟨9,91,none⟩),.pointer (some ⟨w.heap.size,0,none⟩),.int .u64 150] 116)).alloc (.cells #[.pointer (some ⟨9,91,none⟩),.pointer (some ⟨w.heap.size,0,none⟩),.int .u64 150] 116)).alloc (.cells #[.int .i64 n] 48)).setCell t (.int .i64 n):=by
 have h6:=@run_callFunc_extern Tryz.prog 51 _ (fun args=>ReflectliteValue.unpack (args.getD 0 (.tuple #[]))) Tryz.func51 (by kernel_rfl) (by kernel_rfl) (by kernel_rfl) (by kernel_rfl)
 have h7:=@run_callFunc_extern Tryz.prog 52 _ (ReflectliteValue.methodAny (ReflectliteValue.valueError "reflectlite.Value.Type" 0) (fun t _ _ _=>ReflectliteType.toType t)) Tryz.func52 (by kernel_rfl) (by kernel_rfl) (by kernel_rfl) (by kernel_rfl)
 have h8:=@run_callFunc_extern Tryz.prog 53 _ (ReflectliteValue.method (ReflectliteValue.valueError "reflectlite.Value.IsNil" 0) ReflectliteValue.isNil) Tryz.func53 (by kernel_rfl) (by kernel_rfl) (by kernel_rfl) (by kernel_rfl)
 have h27:=@run_callFunc_extern Tryz.prog 146 _ (ReflectliteType.abiMethod fun t=>do pure (.int .u8 (← Rtype.kind t))) Tryz.func146 (by kernel_rfl) (by kernel_rfl) (by kernel_rfl) (by kernel_rfl)
 have h37:=@run_callFunc_extern Tryz.prog 158 _ (ReflectliteType.method ReflectliteType.elem) Tryz.func158 (by kernel_rfl) (by kernel_rfl) (by kernel_rfl) (by kernel_rfl)
 have h38:=@run_callFunc_extern Tryz.prog 159 _ (ReflectliteType.relation "Implements" ReflectliteType.implements_) Tryz.func159 (by kernel_rfl) (by kernel_rfl) (by kernel_rfl) (by kernel_rfl)
 have h10:=@run_callFunc_extern Tryz.prog 77 _ (ReflectliteType.typeOf) Tryz.func77 (by kernel_rfl) (by kernel_rfl) (by kernel_rfl) (by kernel_rfl)
 have h35:=@run_callFunc_extern Tryz.prog 156 _ (ReflectliteType.relation "AssignableTo" ReflectliteType.assignableTo) Tryz.func156 (by kernel_rfl) (by kernel_rfl) (by kernel_rfl) (by kernel_rfl)
 have h11:=@run_callFunc_extern Tryz.prog 78 _ (ReflectliteValue.method (ReflectliteValue.valueError "reflectlite.Value.Elem" 0) ReflectliteValue.elem) Tryz.func78 (by kernel_rfl) (by kernel_rfl) (by kernel_rfl) (by kernel_rfl)
 have h12:=@run_callFunc_extern Tryz.prog 79 _ (ReflectliteValue.set) Tryz.func79 (by kernel_rfl) (by kernel_rfl) (by kernel_rfl) (by kernel_rfl)
 have tO:=apiTypeOfE
 have mA:=apiMethodAssignableTo
 have a25:=apiAssignableE
 have v25:=apiValueOfE
 have f6:=apiValueOfP
 have f7:=apiTypeP
 have mK:=apiMethodKind
 have mE:=apiMethodElem
 have mI:=apiMethodImplements
 have k27:=apiKindP
 have k25:=apiKindE
 have e27:=apiElemP
 have i25:=apiImplementsE
 have n8:=apiIsNilP ⟨w.heap.size,0,none⟩ t ((w.alloc (.cells #[.pointer (some t)] 91)).alloc (.cells #[.pointer (some ⟨9,91,none⟩),.pointer (some ⟨w.heap.size,0,none⟩),.int .u64 150] 116)) (by simp)
 have hlt : 0 < w.heap.size:=by
  rcases Nat.lt_or_ge 0 w.heap.size with h | h
  ·exact h
  ·simp [World.cell?,Array.getElem?_eq_none h] at hg
 have hg2 : ((w.alloc (.cells #[.pointer (some t)] 91)).alloc (.cells #[.pointer (some ⟨9,91,none⟩),.pointer (some ⟨w.heap.size,0,none⟩),.int .u64 150] 116)).cell? ⟨0,0,none⟩=some (.iface 145 (.agg #[.pointer (some ⟨9,31,none⟩)])):=by
  rw [World.cell?_alloc_lt _ _ ⟨0,0,none⟩ (by simp <;> omega),World.cell?_alloc_lt _ _ ⟨0,0,none⟩ hlt]; exact hg
 have htl : t.block < w.heap.size:=by
  rcases Nat.lt_or_ge t.block w.heap.size with h | h
  ·exact h
  ·simp [World.cell?,Array.getElem?_eq_none h] at ht0
 have el:=apiElemVP ⟨w.heap.size,0,none⟩ t (((w.alloc (.cells #[.pointer (some t)] 91)).alloc (.cells #[.pointer (some ⟨9,91,none⟩),.pointer (some ⟨w.heap.size,0,none⟩),.int .u64 150] 116)).alloc (.cells #[.pointer (some ⟨9,91,none⟩),.pointer (some ⟨w.heap.size,0,none⟩),.int .u64 150] 116)) (by rw [World.cell?_alloc_lt _ _ ⟨w.heap.size,0,none⟩ (by simp <;> omega)]; simp)
 have st:=apiSetE t ⟨w.heap.size + 1 + 1 + 1,0,none⟩ n old ((((w.alloc (.cells #[.pointer (some t)] 91)).alloc (.cells #[.pointer (some ⟨9,91,none⟩),.pointer (some ⟨w.heap.size,0,none⟩),.int .u64 150] 116)).alloc (.cells #[.pointer (some ⟨9,91,none⟩),.pointer (some ⟨w.heap.size,0,none⟩),.int .u64 150] 116)).alloc (.cells #[.int .i64 n] 48))
  (by rw [World.cell?_alloc_at _ _ _ _ (by simp)]; rfl)
  (by rw [World.cell?_alloc_lt _ _ t (by simp <;> omega),World.cell?_alloc_lt _ _ t (by simp <;> omega),World.cell?_alloc_lt _ _ t (by simp <;> omega),World.cell?_alloc_lt _ _ t htl]; exact ht0)
  (by rw [World.frozen?_alloc_old _ _ t (by simp <;> omega),World.frozen?_alloc_old _ _ t (by simp <;> omega),World.frozen?_alloc_old _ _ t (by simp <;> omega),World.frozen?_alloc_old _ _ t (Nat.ne_of_lt htl)]; exact hf0)
 go_enter Tryz.func33,Tryz.ntmps33
 go_wp2
 refine wp_loop_rounds 1 ?_
 rw [rounds_succ]
 go_wp2
 go_ret
 exact ⟨rfl,rfl⟩
end Go.Proofs.YtilhhkokdfajiaaGreatDoor
namespace Go.Proofs.YtilhhkokdfajiaaGreatDoor
open Go Go.RowKit Go.Extern.Stop Go.Stop Go.Extern Go.Mq
set_option maxRecDepth 100000
def ErrLaid (w:World):Prop:=w.cell? ⟨0,0,none⟩=some (.iface 145 (.agg #[.pointer (some ⟨9,31,none⟩)]))
theorem ErrLaid.kept {S:List Nat} {w w':World} (h:ErrLaid w) (hc:Chg S w w') (hn : 0∉S):ErrLaid w':=hc.cellSome h hn
theorem as_errno (n:Int) (t:Addr) (old:Value) (w:World) (hg:ErrLaid w) (ht0 : w.cell? t=some old) (hf0 : w.frozen? t=false) :
  Calls Tryz.prog 33 #[.iface 48 (.int .i64 n),.iface 91 (.pointer (some t))] w fun ev w'=>ev = .returned (.bool true)∧w'.cell? t=some (.int .i64 n)∧Chg [t.block] w w':=by
 refine (as_hit n t old w hg ht0 hf0).mono ?_
 rintro _ w' ⟨rfl,hw⟩
 have hc:Chg [] w ((((w.alloc (.cells #[.pointer (some t)] 91)).alloc (.cells #[.pointer (some ⟨9,91,none⟩),.pointer (some ⟨w.heap.size,0,none⟩),.int .u64 150] 116)).alloc (.cells #[.pointer (some ⟨9,91,none⟩),.pointer (some ⟨w.heap.size,0,none⟩),.int .u64 150] 116)).alloc (.cells #[.int .i64 n] 48)):=((((Chg.refl [] w).alloc _).alloc _).alloc _).alloc _
 refine ⟨rfl,?_,?_⟩
 ·rw [hw,World.cell?_setCell_same _ _ _ (hc.cellSome ht0 (by simp))]
 ·rw [hw]
  exact Chg.setCell (hc.mono (by simp)) _ (.inl (by simp)) _
theorem tell_errno (n:Int) (w:World) (hg:ErrLaid w):Calls Tryz.prog 17 #[.iface 48 (.int .i64 n)] w fun e w'=>e = .returned (.int .i64 n)∧Chg [] w w':=by
 have HG:=Lib.hid hg; clear hg
 go_enter Tryz.func17,Tryz.ntmps17
 go_wp2_with fail
 have hg1:ErrLaid (w.alloc (.cells #[.int .i64 0] 48)):=HG.out.kept ((Chg.refl [] w).alloc _) (by simp)
 refine (as_errno n ⟨w.heap.size,0,none⟩ (.int .i64 0) _ hg1 (by simp) (by simp)).mono ?_
 rintro _ w' ⟨rfl,hcell,hc⟩
 have hc:Chg [] w w':=(((Chg.refl [] w).alloc (.cells #[.int .i64 0] 48)).trans hc (by simp))
 have HC:=Lib.hid hc; clear hc hg1
 go_wp2_with fail
 go_ret
 exact ⟨rfl,HC.out⟩
end Go.Proofs.YtilhhkokdfajiaaGreatDoor
namespace Go.Proofs.YtilhhkokdfajiaaGreatDoor
open Go Go.RowKit Go.Extern.Stop Go.Stop Go.Extern Go.Mq
set_option maxRecDepth 100000
theorem apiTypeOfA (v:Value) (w:World) : (ReflectliteType.typeOf #[.iface 94 v]).run Tryz.prog w = .ok (.iface 145 (.agg #[.pointer (some ⟨9,94,none⟩)])) w:=by kernel_rfl
theorem apiAssignableA (w:World) : (ReflectliteType.relation "AssignableTo" ReflectliteType.assignableTo #[.agg #[.pointer (some ⟨9,94,none⟩)],.iface 145 (.agg #[.pointer (some ⟨9,48,none⟩)])]).run Tryz.prog w = .ok (.bool false) w:=by kernel_rfl
theorem apiMethodUnwrap (h:Value) (w:World) : (Go.method 341 94 h "Unwrap").run Tryz.prog w = .ok (151,h) w:=by kernel_rfl
set_option maxHeartbeats 4000000 in
theorem as_at0 (n:Int) (b:Nat) (t:Addr) (old:Value) (w:World) (hg : w.cell? ⟨0,0,none⟩=some (.iface 145 (.agg #[.pointer (some ⟨9,31,none⟩)]))) (ht0 : w.cell? t=some old) (hf0 : w.frozen? t=false) (hb0 : w.cell? ⟨b,0,none⟩=some (.int .i64 n)) :
  Calls Tryz.prog 33 #[.iface 94 (.pointer (some ⟨b,0,none⟩)),.iface 91 (.pointer (some t))] w fun ev w'=>ev = .returned (.bool true)∧w'=((((w.alloc (.cells #[.pointer (some t)] 91)).alloc (.cells #[.pointer (some ⟨9,91,none⟩),.pointer (some ⟨w.heap.size,0,none⟩),.int .u64 150] 116)).alloc (.cells #[.pointer (some ⟨9,91,none⟩),.pointer (some ⟨w.heap.size,0,none⟩),.int .u64 150] 116)).alloc (.cells #[.int .i64 n] 48)).setCell t (.int .i64 n):=by
 have h6:=@run_callFunc_extern Tryz.prog 51 _ (fun args=>ReflectliteValue.unpack (args.getD 0 (.tuple #[]))) Tryz.func51 (by kernel_rfl) (by kernel_rfl) (by kernel_rfl) (by kernel_rfl)
 have h7:=@run_callFunc_extern Tryz.prog 52 _ (ReflectliteValue.methodAny (ReflectliteValue.valueError "reflectlite.Value.Type" 0) (fun t _ _ _=>ReflectliteType.toType t)) Tryz.func52 (by kernel_rfl) (by kernel_rfl) (by kernel_rfl) (by kernel_rfl)
 have h8:=@run_callFunc_extern Tryz.prog 53 _ (ReflectliteValue.method (ReflectliteValue.valueError "reflectlite.Value.IsNil" 0) ReflectliteValue.isNil) Tryz.func53 (by kernel_rfl) (by kernel_rfl) (by kernel_rfl) (by kernel_rfl)
 have h27:=@run_callFunc_extern Tryz.prog 146 _ (ReflectliteType.abiMethod fun t=>do pure (.int .u8 (← Rtype.kind t))) Tryz.func146 (by kernel_rfl) (by kernel_rfl) (by kernel_rfl) (by kernel_rfl)
 have h37:=@run_callFunc_extern Tryz.prog 158 _ (ReflectliteType.method ReflectliteType.elem) Tryz.func158 (by kernel_rfl) (by kernel_rfl) (by kernel_rfl) (by kernel_rfl)
 have h38:=@run_callFunc_extern Tryz.prog 159 _ (ReflectliteType.relation "Implements" ReflectliteType.implements_) Tryz.func159 (by kernel_rfl) (by kernel_rfl) (by kernel_rfl) (by kernel_rfl)
 have h10:=@run_callFunc_extern Tryz.prog 77 _ (ReflectliteType.typeOf) Tryz.func77 (by kernel_rfl) (by kernel_rfl) (by kernel_rfl) (by kernel_rfl)
 have h35:=@run_callFunc_extern Tryz.prog 156 _ (ReflectliteType.relation "AssignableTo" ReflectliteType.assignableTo) Tryz.func156 (by kernel_rfl) (by kernel_rfl) (by kernel_rfl) (by kernel_rfl)
 have h11:=@run_callFunc_extern Tryz.prog 78 _ (ReflectliteValue.method (ReflectliteValue.valueError "reflectlite.Value.Elem" 0) ReflectliteValue.elem) Tryz.func78 (by kernel_rfl) (by kernel_rfl) (by kernel_rfl) (by kernel_rfl)
 have h12:=@run_callFunc_extern Tryz.prog 79 _ (ReflectliteValue.set) Tryz.func79 (by kernel_rfl) (by kernel_rfl) (by kernel_rfl) (by kernel_rfl)
 have tO:=apiTypeOfE
 have mA:=apiMethodAssignableTo
 have a25:=apiAssignableE
 have v25:=apiValueOfE
 have f6:=apiValueOfP
 have f7:=apiTypeP
 have mK:=apiMethodKind
 have mE:=apiMethodElem
 have mI:=apiMethodImplements
 have k27:=apiKindP
 have k25:=apiKindE
 have e27:=apiElemP
 have i25:=apiImplementsE
 have n8:=apiIsNilP ⟨w.heap.size,0,none⟩ t ((w.alloc (.cells #[.pointer (some t)] 91)).alloc (.cells #[.pointer (some ⟨9,91,none⟩),.pointer (some ⟨w.heap.size,0,none⟩),.int .u64 150] 116)) (by simp)
 have hlt : 0 < w.heap.size:=by
  rcases Nat.lt_or_ge 0 w.heap.size with h | h
  ·exact h
  ·simp [World.cell?,Array.getElem?_eq_none h] at hg
 have hg2 : ((w.alloc (.cells #[.pointer (some t)] 91)).alloc (.cells #[.pointer (some ⟨9,91,none⟩),.pointer (some ⟨w.heap.size,0,none⟩),.int .u64 150] 116)).cell? ⟨0,0,none⟩=some (.iface 145 (.agg #[.pointer (some ⟨9,31,none⟩)])):=by
  rw [World.cell?_alloc_lt _ _ ⟨0,0,none⟩ (by simp <;> omega),World.cell?_alloc_lt _ _ ⟨0,0,none⟩ hlt]; exact hg
 have htl : t.block < w.heap.size:=by
  rcases Nat.lt_or_ge t.block w.heap.size with h | h
  ·exact h
  ·simp [World.cell?,Array.getElem?_eq_none h] at ht0
 have el:=apiElemVP ⟨w.heap.size,0,none⟩ t (((w.alloc (.cells #[.pointer (some t)] 91)).alloc (.cells #[.pointer (some ⟨9,91,none⟩),.pointer (some ⟨w.heap.size,0,none⟩),.int .u64 150] 116)).alloc (.cells #[.pointer (some ⟨9,91,none⟩),.pointer (some ⟨w.heap.size,0,none⟩),.int .u64 150] 116)) (by rw [World.cell?_alloc_lt _ _ ⟨w.heap.size,0,none⟩ (by simp <;> omega)]; simp)
 have st:=apiSetE t ⟨w.heap.size + 1 + 1 + 1,0,none⟩ n old ((((w.alloc (.cells #[.pointer (some t)] 91)).alloc (.cells #[.pointer (some ⟨9,91,none⟩),.pointer (some ⟨w.heap.size,0,none⟩),.int .u64 150] 116)).alloc (.cells #[.pointer (some ⟨9,91,none⟩),.pointer (some ⟨w.heap.size,0,none⟩),.int .u64 150] 116)).alloc (.cells #[.int .i64 n] 48))
  (by rw [World.cell?_alloc_at _ _ _ _ (by simp)]; rfl)
  (by rw [World.cell?_alloc_lt _ _ t (by simp <;> omega),World.cell?_alloc_lt _ _ t (by simp <;> omega),World.cell?_alloc_lt _ _ t (by simp <;> omega),World.cell?_alloc_lt _ _ t htl]; exact ht0)
  (by rw [World.frozen?_alloc_old _ _ t (by simp <;> omega),World.frozen?_alloc_old _ _ t (by simp <;> omega),World.frozen?_alloc_old _ _ t (by simp <;> omega),World.frozen?_alloc_old _ _ t (Nat.ne_of_lt htl)]; exact hf0)
 have tA:=apiTypeOfA
 have aA:=apiAssignableA
 have nA : ∀ v w,(Instr.typeAssert (.iface 94 v) 31 150 true).run Tryz.prog w = .ok (.tuple #[.nilIface,.bool false]) w:=fun v w=>run_typeAssert_lacksB (z:=.nilIface) Tryz.underlying150 (by kernel_rfl) (by kernel_rfl) v 31 w
 have uA : ∀ v w,(Instr.typeAssert (.iface 94 v) 31 153 true).run Tryz.prog w = .ok (.tuple #[.iface 94 v,.bool true]) w:=fun v w=>run_typeAssert_hasB Tryz.underlying153 (by kernel_rfl) v 31 w
 have mA:=apiMethodUnwrap
 have hbl : b < w.heap.size:=by
  rcases Nat.lt_or_ge b w.heap.size with h | h
  ·exact h
  ·simp [World.cell?,Array.getElem?_eq_none h] at hb0
 have hb3 : (((w.alloc (.cells #[.pointer (some t)] 91)).alloc (.cells #[.pointer (some ⟨9,91,none⟩),.pointer (some ⟨w.heap.size,0,none⟩),.int .u64 150] 116)).alloc (.cells #[.pointer (some ⟨9,91,none⟩),.pointer (some ⟨w.heap.size,0,none⟩),.int .u64 150] 116)).cell? ⟨b,0,none⟩=some (.int .i64 n):=by
  rw [World.cell?_alloc_lt _ _ ⟨b,0,none⟩ (by simp <;> omega),World.cell?_alloc_lt _ _ ⟨b,0,none⟩ (by simp <;> omega),World.cell?_alloc_lt _ _ ⟨b,0,none⟩ hbl]; exact hb0
 go_enter Tryz.func33,Tryz.ntmps33
 go_wp2
 refine wp_loop_rounds 2 ?_
 rw [rounds_succ]
 go_wp2
 rw [rounds_succ]
 go_wp2
 go_ret
 exact ⟨rfl,rfl⟩
theorem as_at (n:Int) (b:Nat) (t:Addr) (old:Value) (w:World) (hg:ErrLaid w) (ht0 : w.cell? t=some old) (hf0 : w.frozen? t=false) (hb0 : w.cell? ⟨b,0,none⟩=some (.int .i64 n)) :
  Calls Tryz.prog 33 #[.iface 94 (.pointer (some ⟨b,0,none⟩)),.iface 91 (.pointer (some t))] w fun ev w'=>ev = .returned (.bool true)∧w'.cell? t=some (.int .i64 n)∧Chg [t.block] w w':=by
 refine (as_at0 n b t old w hg ht0 hf0 hb0).mono ?_
 rintro _ w' ⟨rfl,hw⟩
 have hc:Chg [] w ((((w.alloc (.cells #[.pointer (some t)] 91)).alloc (.cells #[.pointer (some ⟨9,91,none⟩),.pointer (some ⟨w.heap.size,0,none⟩),.int .u64 150] 116)).alloc (.cells #[.pointer (some ⟨9,91,none⟩),.pointer (some ⟨w.heap.size,0,none⟩),.int .u64 150] 116)).alloc (.cells #[.int .i64 n] 48)):=((((Chg.refl [] w).alloc _).alloc _).alloc _).alloc _
 refine ⟨rfl,?_,?_⟩
 ·rw [hw,World.cell?_setCell_same _ _ _ (hc.cellSome ht0 (by simp))]
 ·rw [hw]
  exact Chg.setCell (hc.mono (by simp)) _ (.inl (by simp)) _
theorem tell_at (n:Int) (b:Nat) (w:World) (hg:ErrLaid w) (hb0 : w.cell? ⟨b,0,none⟩=some (.int .i64 n)):Calls Tryz.prog 17 #[.iface 94 (.pointer (some ⟨b,0,none⟩))] w fun e w'=>e = .returned (.int .i64 n)∧Chg [] w w':=by
 have HG:=Lib.hid hg; have HB:=Lib.hid hb0; clear hg hb0
 go_enter Tryz.func17,Tryz.ntmps17
 go_wp2_with fail
 have hg1:ErrLaid (w.alloc (.cells #[.int .i64 0] 48)):=HG.out.kept ((Chg.refl [] w).alloc _) (by simp)
 refine (as_at n b ⟨w.heap.size,0,none⟩ (.int .i64 0) _ hg1 (by simp) (by simp) (((Chg.refl [] w).alloc _).cellSome HB.out (by simp))).mono ?_
 rintro _ w' ⟨rfl,hcell,hc⟩
 have hc:Chg [] w w':=(((Chg.refl [] w).alloc (.cells #[.int .i64 0] 48)).trans hc (by simp))
 have HC:=Lib.hid hc; clear hc hg1
 go_wp2_with fail
 go_ret
 exact ⟨rfl,HC.out⟩
end Go.Proofs.YtilhhkokdfajiaaGreatDoor
