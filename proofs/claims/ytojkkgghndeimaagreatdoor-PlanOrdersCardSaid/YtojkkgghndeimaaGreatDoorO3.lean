/- Some texts in one. -/
import Derived.Test.YtojkkgghndeimaaGreatDoorProg
import Derived.WalkKit
import Derived.LaidEql
import Derived.Stop.Asserts
import Derived.RowKitTokens
import Derived.Test.YtojkkgghndeimaaGreatDoorO0
namespace Go.Proofs.YtojkkgghndeimaaGreatDoor
open Go Go.RowKit Go.Extern.Stop Go.Stop Go.Extern Go.Mq
theorem apiValueOfP (t:Addr) (w:World) : (ReflectliteValue.unpack (.iface 211 (.pointer (some t)))).run Tryz.prog w
  = .ok (.agg #[.pointer (some ⟨13,211,none⟩),.pointer (some ⟨w.heap.size,0,none⟩),.int .u64 150]) (w.alloc (.cells #[.pointer (some t)] 211)):=by kernel_rfl
theorem apiTypeP (a:Addr) (w:World) : (ReflectliteValue.methodAny (ReflectliteValue.valueError "reflectlite.Value.Type" 0) (fun t _ _ _=>ReflectliteType.toType t) #[.agg #[.pointer (some ⟨13,211,none⟩),.pointer (some a),.int .u64 150]]).run Tryz.prog w
  = .ok (.iface 213 (.agg #[.pointer (some ⟨13,211,none⟩)])) w:=by kernel_rfl
theorem apiMethodKind (h:Value) (w:World) : (Go.method 435 213 (.agg #[h]) "Kind").run Tryz.prog w = .ok (266,h) w:=by kernel_rfl
theorem apiKindP (w:World) : ((ReflectliteType.abiMethod fun t=>(fun a:Nat=>Value.int IntKind.u8 (a:Int)) <$> Rtype.kind t) #[.pointer (some ⟨13,211,none⟩)]).run Tryz.prog w = .ok (.int .u8 22) w:=by kernel_rfl
theorem apiKindE (w:World) : ((ReflectliteType.abiMethod fun t=>(fun a:Nat=>Value.int IntKind.u8 (a:Int)) <$> Rtype.kind t) #[.pointer (some ⟨13,32,none⟩)]).run Tryz.prog w = .ok (.int .u8 2) w:=by kernel_rfl
theorem api_rlm (z:Sem Value) (f:TypeId→Addr→Nat→Nat→Sem Value) (v:Value) :
  ReflectliteValue.method z f #[v]=(do match ← ReflectliteValue.parts v with | none=>z | some (t,a,fl)=>f t a fl (fl % 32)):=rfl
theorem apiPartsP (a:Addr) (w:World) : (ReflectliteValue.parts (.agg #[.pointer (some ⟨13,211,none⟩),.pointer (some a),.int .u64 150])).run Tryz.prog w = .ok (some (211,a,150)) w:=by kernel_rfl
theorem apiIsNilP (a p:Addr) (W:World) (ha:W.cell? a=some (.pointer (some p))) :
  (ReflectliteValue.method (ReflectliteValue.valueError "reflectlite.Value.IsNil" 0) ReflectliteValue.isNil #[.agg #[.pointer (some ⟨13,211,none⟩),.pointer (some a),.int .u64 150]]).run Tryz.prog W = .ok (.bool false) W:=by
 rw [api_rlm]
 simp only [Sem.run_bind,apiPartsP,Result.andThen]
 simp [ReflectliteValue.isNil,loadVar,isAgg,underlying,Tryz.underlying211,ha,Result.andThen]
theorem apiMethodElem (h:Value) (w:World) : (Go.method 435 213 (.agg #[h]) "Elem").run Tryz.prog w = .ok (276,.agg #[h]) w:=by kernel_rfl
theorem apiMethodImplements (h:Value) (w:World) : (Go.method 435 213 (.agg #[h]) "Implements").run Tryz.prog w = .ok (277,.agg #[h]) w:=by kernel_rfl
theorem apiMethodAssignableTo (h:Value) (w:World) : (Go.method 435 213 (.agg #[h]) "AssignableTo").run Tryz.prog w = .ok (275,.agg #[h]) w:=by kernel_rfl
theorem apiElemP (w:World) : (ReflectliteType.method ReflectliteType.elem #[.agg #[.pointer (some ⟨13,211,none⟩)]]).run Tryz.prog w = .ok (.iface 213 (.agg #[.pointer (some ⟨13,32,none⟩)])) w:=by kernel_rfl
theorem apiImplementsE (w:World) : (ReflectliteType.relation "Implements" ReflectliteType.implements_ #[.agg #[.pointer (some ⟨13,32,none⟩)],.iface 213 (.agg #[.pointer (some ⟨13,38,none⟩)])]).run Tryz.prog w = .ok (.bool true) w:=by kernel_rfl
theorem apiTypeOfE (v:Value) (w:World) : (ReflectliteType.typeOf #[.iface 32 v]).run Tryz.prog w = .ok (.iface 213 (.agg #[.pointer (some ⟨13,32,none⟩)])) w:=by kernel_rfl
theorem apiAssignableE (w:World) : (ReflectliteType.relation "AssignableTo" ReflectliteType.assignableTo #[.agg #[.pointer (some ⟨13,32,none⟩)],.iface 213 (.agg #[.pointer (some ⟨13,32,none⟩)])]).run Tryz.prog w = .ok (.bool true) w:=by kernel_rfl
theorem apiValueOfE (n:Int) (w:World) : (ReflectliteValue.unpack (.iface 32 (.int .i64 n))).run Tryz.prog w
  = .ok (.agg #[.pointer (some ⟨13,32,none⟩),.pointer (some ⟨w.heap.size,0,none⟩),.int .u64 130]) (w.alloc (.cells #[.int .i64 n] 32)):=by kernel_rfl
theorem apiElemOfP (w:World) : (Rtype.elem? 211).run Tryz.prog w = .ok (some 32) w:=by kernel_rfl
theorem apiMkE (p:Addr) (w:World) : (ReflectliteValue.mk 32 p ReflectliteValue.flagAddr).run Tryz.prog w = .ok (.agg #[.pointer (some ⟨13,32,none⟩),.pointer (some p),.int .u64 386]) w:=by kernel_rfl
theorem apiElemVP (a p:Addr) (W:World) (ha:W.cell? a=some (.pointer (some p))) :
  (ReflectliteValue.method (ReflectliteValue.valueError "reflectlite.Value.Elem" 0) ReflectliteValue.elem #[.agg #[.pointer (some ⟨13,211,none⟩),.pointer (some a),.int .u64 150]]).run Tryz.prog W
   = .ok (.agg #[.pointer (some ⟨13,32,none⟩),.pointer (some p),.int .u64 386]) W:=by
 rw [api_rlm]
 simp only [Sem.run_bind,apiPartsP,Result.andThen]
 simp [ReflectliteValue.elem,loadVar,isAgg,underlying,Tryz.underlying211,ha,Result.andThen,apiElemOfP,apiMkE]
theorem api_rls (v x:Value):ReflectliteValue.set #[v,x]=(do
  let (some (dst,a,fl),some (src,b,_)):=(← ReflectliteValue.parts v,← ReflectliteValue.parts x)
   | unsupported (.noEntry "extern/(internal/reflectlite.Value).Set.zeroValue")
  if fl / ReflectliteValue.flagAddr % 2 == 0 then unsupported (.noEntry "extern/(internal/reflectlite.Value).Set.unaddressable")
  let val ← loadVar src b
  if ← Rtype.directlyAssignable dst src then storeVar dst a val
  else if ← Rtype.implements dst src then
   if (← Rtype.kind src) == 20 then
    match val with
    | .nilIface=>unsupported (.noEntry "extern/reflectlite: a nil value of one interface type handed on as a value of another")
    | _=>storeVar dst a val
   else storeVar dst a (.iface src val)
  else panicString ("reflectlite.Set: value of type " ++ (← Rtype.spelt src) ++ " is not assignable to type " ++ (← Rtype.spelt dst))
  pure (.tuple #[])):=rfl
theorem apiPartsEA (a:Addr) (w:World) : (ReflectliteValue.parts (.agg #[.pointer (some ⟨13,32,none⟩),.pointer (some a),.int .u64 386])).run Tryz.prog w = .ok (some (32,a,386)) w:=by kernel_rfl
theorem apiPartsE (a:Addr) (w:World) : (ReflectliteValue.parts (.agg #[.pointer (some ⟨13,32,none⟩),.pointer (some a),.int .u64 130])).run Tryz.prog w = .ok (some (32,a,130)) w:=by kernel_rfl
theorem apiDirectE (w:World) : (Rtype.directlyAssignable 32 32).run Tryz.prog w = .ok true w:=by kernel_rfl
theorem apiSetE (ta b:Addr) (n:Int) (old:Value) (W:World) (hb:W.cell? b=some (.int .i64 n)) (ht:W.cell? ta=some old) (hf:W.frozen? ta=false) :
  (ReflectliteValue.set #[.agg #[.pointer (some ⟨13,32,none⟩),.pointer (some ta),.int .u64 386],.agg #[.pointer (some ⟨13,32,none⟩),.pointer (some b),.int .u64 130]]).run Tryz.prog W
   = .ok (.tuple #[]) (W.setCell ta (.int .i64 n)):=by
 rw [api_rls]
 simp only [Sem.run_bind,apiPartsEA,apiPartsE,Result.andThen]
 simp [ReflectliteValue.flagAddr,loadVar,isAgg,underlying,Tryz.underlying32,hb,Result.andThen,apiDirectE,storeVar,Value.cells,storeCells,Addr.add]
 rw [run_store Tryz.prog W ta _ _ (by rfl)]
 simp [ht,hf]
set_option maxHeartbeats 4000000 in
theorem as_hit (n:Int) (t:Addr) (old:Value) (w:World) (hg : w.cell? ⟨5,0,none⟩=some (.iface 213 (.agg #[.pointer (some ⟨13,38,none⟩)]))) (ht0 : w.cell? t=some old) (hf0 : w.frozen? t=false) :
  Calls Tryz.prog 150 #[.iface 32 (.int .i64 n),.iface 211 (.pointer (some t))] w fun ev w'=>ev = .returned (.bool true)∧w'=((((w.alloc (.cells #[.pointer (some t)] 211)).alloc (.cells #[.pointer (some ⟨13,211,none⟩),.pointer (some ⟨w.heap.size,0,none⟩),.int .u64 150] 179)).alloc (.cells #[.pointer (some ⟨13,211,none⟩),.pointer (some ⟨w.heap.size,0,none⟩),.int .u64 150] 179)).alloc (.cells #[.int .i64 n] 32)).setCell t (.int .i64 n):=by
 have h6:=@run_callFunc_extern Tryz.prog 109 _ (fun args=>ReflectliteValue.unpack (args.getD 0 (.tuple #[]))) Tryz.func109 (by kernel_rfl) (by kernel_rfl) (by kernel_rfl) (by kernel_rfl)
 have h7:=@run_callFunc_extern Tryz.prog 199 _ (ReflectliteValue.methodAny (ReflectliteValue.valueError "reflectlite.Value.Type" 0) (fun t _ _ _=>ReflectliteType.toType t)) Tryz.func199 (by kernel_rfl) (by kernel_rfl) (by kernel_rfl) (by kernel_rfl)
 have h8:=@run_callFunc_extern Tryz.prog 200 _ (ReflectliteValue.method (ReflectliteValue.valueError "reflectlite.Value.IsNil" 0) ReflectliteValue.isNil) Tryz.func200 (by kernel_rfl) (by kernel_rfl) (by kernel_rfl) (by kernel_rfl)
 have h27:=@run_callFunc_extern Tryz.prog 266 _ (ReflectliteType.abiMethod fun t=>do pure (.int .u8 (← Rtype.kind t))) Tryz.func266 (by kernel_rfl) (by kernel_rfl) (by kernel_rfl) (by kernel_rfl)
 have h37:=@run_callFunc_extern Tryz.prog 276 _ (ReflectliteType.method ReflectliteType.elem) Tryz.func276 (by kernel_rfl) (by kernel_rfl) (by kernel_rfl) (by kernel_rfl)
 have h38:=@run_callFunc_extern Tryz.prog 277 _ (ReflectliteType.relation "Implements" ReflectliteType.implements_) Tryz.func277 (by kernel_rfl) (by kernel_rfl) (by kernel_rfl) (by kernel_rfl)
 have h10:=@run_callFunc_extern Tryz.prog 229 _ (ReflectliteType.typeOf) Tryz.func229 (by kernel_rfl) (by kernel_rfl) (by kernel_rfl) (by kernel_rfl)
 have h35:=@run_callFunc_extern Tryz.prog 275 _ (ReflectliteType.relation "AssignableTo" ReflectliteType.assignableTo) Tryz.func275 (by kernel_rfl) (by kernel_rfl) (by kernel_rfl) (by kernel_rfl)
 have h11:=@run_callFunc_extern Tryz.prog 230 _ (ReflectliteValue.method (ReflectliteValue.valueError "reflectlite.Value.Elem" 0) ReflectliteValue.elem) Tryz.func230 (by kernel_rfl) (by kernel_rfl) (by kernel_rfl) (by kernel_rfl)
 have h12:=@run_callFunc_extern Tryz.prog 231 _ (ReflectliteValue.set) Tryz.func231 (by kernel_rfl) (by kernel_rfl) (by kernel_rfl) (by kernel_rfl)
 have tO:=apiTypeOfE
 have mA:=apiMethodAssignableTo
 have a25:=apiAssignableE
 have v25:=apiValueOfE
 have f6:=apiValueOfP
 have f7:=apiTypeP
 have mK:=apiMethodKind
 have mE:=apiMethodElem
 have mI:=apiMethodImplements
 have k27:=apiKindP
 have k25:=apiKindE
 have e27:=apiElemP
 have i25:=apiImplementsE
 have n8:=apiIsNilP ⟨w.heap.size,0,none⟩ t ((w.alloc (.cells #[.pointer (some t)] 211)).alloc (.cells #[.pointer (some ⟨13,211,none⟩),.pointer (some ⟨w.heap.size,0,none⟩),.int .u64 150] 179)) (by simp)
 have hlt : 5 < w.heap.size:=by
  rcases Nat.lt_or_ge 5 w.heap.size with h | h
  ·exact h
  ·simp [World.cell?,Array.getElem?_eq_none h] at hg
 have hg2 : ((w.alloc (.cells #[.pointer (some t)] 211)).alloc (.cells #[.pointer (some ⟨13,211,none⟩),.pointer (some ⟨w.heap.size,0,none⟩),.int .u64 150] 179)).cell? ⟨5,0,none⟩=some (.iface 213 (.agg #[.pointer (some ⟨13,38,none⟩)])):=by
  rw [World.cell?_alloc_lt _ _ ⟨5,0,none⟩ (by simp <;> omega),World.cell?_alloc_lt _ _ ⟨5,0,none⟩ hlt]; exact hg
 have htl : t.block < w.heap.size:=by
  rcases Nat.lt_or_ge t.block w.heap.size with h | h
  ·exact h
  ·simp [World.cell?,Array.getElem?_eq_none h] at ht0
 have el:=apiElemVP ⟨w.heap.size,0,none⟩ t (((w.alloc (.cells #[.pointer (some t)] 211)).alloc (.cells #[.pointer (some ⟨13,211,none⟩),.pointer (some ⟨w.heap.size,0,none⟩),.int .u64 150] 179)).alloc (.cells #[.pointer (some ⟨13,211,none⟩),.pointer (some ⟨w.heap.size,0,none⟩),.int .u64 150] 179)) (by rw [World.cell?_alloc_lt _ _ ⟨w.heap.size,0,none⟩ (by simp <;> omega)]; simp)
 have st:=apiSetE t ⟨w.heap.size + 1 + 1 + 1,0,none⟩ n old ((((w.alloc (.cells #[.pointer (some t)] 211)).alloc (.cells #[.pointer (some ⟨13,211,none⟩),.pointer (some ⟨w.heap.size,0,none⟩),.int .u64 150] 179)).alloc (.cells #[.pointer (some ⟨13,211,none⟩),.pointer (some ⟨w.heap.size,0,none⟩),.int .u64 150] 179)).alloc (.cells #[.int .i64 n] 32))
  (by rw [World.cell?_alloc_at _ _ _ _ (by simp)]; rfl)
  (by rw [World.cell?_alloc_lt _ _ t (by simp <;> omega),World.cell?_alloc_lt _ _ t (by simp <;> omega),World.cell?_alloc_lt _ _ t (by simp <;> omega),World.cell?_alloc_lt _ _ t htl]; exact ht0)
  (by rw [World.frozen?_alloc_old _ _ t (by simp <;> omega),World.frozen?_alloc_old _ _ t (by simp <;> omega),World.frozen?_alloc_old _ _ t (by simp <;> omega),World.frozen?_alloc_old _ _ t (Nat.ne_of_lt htl)]; exact hf0)
 go_enter Tryz.func150,Tryz.ntmps150
 go_wp2
 refine wp_loop_rounds 1 ?_
 rw [rounds_succ]
 go_wp2
 go_ret
 exact ⟨rfl,rfl⟩
end Go.Proofs.YtojkkgghndeimaaGreatDoor
namespace Go.Proofs.YtojkkgghndeimaaGreatDoor
open Go Go.RowKit Go.Extern.Stop Go.Stop Go.Extern Go.Mq
set_option maxRecDepth 100000
def ErrLaid (w:World):Prop:=w.cell? ⟨5,0,none⟩=some (.iface 213 (.agg #[.pointer (some ⟨13,38,none⟩)]))
theorem ErrLaid.kept {S:List Nat} {w w':World} (h:ErrLaid w) (hc:Chg S w w') (hn : 5∉S):ErrLaid w':=hc.cellSome h hn
theorem tell_nil (w:World):Calls Tryz.prog 107 #[.nilIface] w fun e w'=>e = .returned (.int .i64 0)∧w'=w:=by
 go_enter Tryz.func107,Tryz.ntmps107
 go_wp2_with fail
 go_ret
 exact ⟨rfl,rfl⟩
theorem as_errno (n:Int) (t:Addr) (old:Value) (w:World) (hg:ErrLaid w) (ht0 : w.cell? t=some old) (hf0 : w.frozen? t=false) :
  Calls Tryz.prog 150 #[.iface 32 (.int .i64 n),.iface 211 (.pointer (some t))] w fun ev w'=>ev = .returned (.bool true)∧w'.cell? t=some (.int .i64 n)∧Chg [t.block] w w':=by
 refine (as_hit n t old w hg ht0 hf0).mono ?_
 rintro _ w' ⟨rfl,hw⟩
 have hc:Chg [] w ((((w.alloc (.cells #[.pointer (some t)] 211)).alloc (.cells #[.pointer (some ⟨13,211,none⟩),.pointer (some ⟨w.heap.size,0,none⟩),.int .u64 150] 179)).alloc (.cells #[.pointer (some ⟨13,211,none⟩),.pointer (some ⟨w.heap.size,0,none⟩),.int .u64 150] 179)).alloc (.cells #[.int .i64 n] 32)):=((((Chg.refl [] w).alloc _).alloc _).alloc _).alloc _
 refine ⟨rfl,?_,?_⟩
 ·rw [hw,World.cell?_setCell_same _ _ _ (hc.cellSome ht0 (by simp))]
 ·rw [hw]
  exact Chg.setCell (hc.mono (by simp)) _ (.inl (by simp)) _
theorem tell_errno (n:Int) (w:World) (hg:ErrLaid w):Calls Tryz.prog 107 #[.iface 32 (.int .i64 n)] w fun e w'=>e = .returned (.int .i64 n)∧Chg [] w w':=by
 have HG:=Lib.hid hg; clear hg
 go_enter Tryz.func107,Tryz.ntmps107
 go_wp2_with fail
 have hg1:ErrLaid (w.alloc (.cells #[.int .i64 0] 32)):=HG.out.kept ((Chg.refl [] w).alloc _) (by simp)
 refine (as_errno n ⟨w.heap.size,0,none⟩ (.int .i64 0) _ hg1 (by simp) (by simp)).mono ?_
 rintro _ w' ⟨rfl,hcell,hc⟩
 have hc:Chg [] w w':=(((Chg.refl [] w).alloc (.cells #[.int .i64 0] 32)).trans hc (by simp))
 have HC:=Lib.hid hc; clear hc hg1
 go_wp2_with fail
 go_ret
 exact ⟨rfl,HC.out⟩
end Go.Proofs.YtojkkgghndeimaaGreatDoor
namespace Go.Proofs.YtojkkgghndeimaaGreatDoor
open Go Go.RowKit Go.Extern.Stop Go.Stop Go.Extern Go.Mq
set_option maxRecDepth 100000
end Go.Proofs.YtojkkgghndeimaaGreatDoor
