/- Some texts in one. -/
import Derived.Test.YtechofppmnnomaaGreatDoorProg
import Derived.WalkKit
import Derived.LaidEql
import Derived.Stop.Asserts
import Derived.RowKitTokens
import Derived.Test.YtechofppmnnomaaGreatDoorB0
namespace Go.Proofs.YtechofppmnnomaaGreatDoor
open Go Go.RowKit Go.Extern.Stop Go.Stop Go.Extern Go.Mq
theorem Qi (t:Addr) (w:World) : (ReflectliteValue.unpack (.iface 111 (.pointer (some t)))).run Tryz.prog w
  = .ok (.agg #[.pointer (some ⟨9,111,none⟩),.pointer (some ⟨w.heap.size,0,none⟩),.int .u64 150]) (w.alloc (.cells #[.pointer (some t)] 111)):=by kernel_rfl
theorem Qj (a:Addr) (w:World) : (ReflectliteValue.methodAny (ReflectliteValue.valueError "reflectlite.Value.Type" 0) (fun t _ _ _=>ReflectliteType.toType t) #[.agg #[.pointer (some ⟨9,111,none⟩),.pointer (some a),.int .u64 150]]).run Tryz.prog w
  = .ok (.iface 210 (.agg #[.pointer (some ⟨9,111,none⟩)])) w:=by kernel_rfl
theorem Qk (h:Value) (w:World) : (Go.method 420 210 (.agg #[h]) "Kind").run Tryz.prog w = .ok (207,h) w:=by kernel_rfl
theorem Ql (w:World) : ((ReflectliteType.abiMethod fun t=>(fun a:Nat=>Value.int IntKind.u8 (a:Int)) <$> Rtype.kind t) #[.pointer (some ⟨9,111,none⟩)]).run Tryz.prog w = .ok (.int .u8 22) w:=by kernel_rfl
theorem Qn (w:World) : ((ReflectliteType.abiMethod fun t=>(fun a:Nat=>Value.int IntKind.u8 (a:Int)) <$> Rtype.kind t) #[.pointer (some ⟨9,46,none⟩)]).run Tryz.prog w = .ok (.int .u8 2) w:=by kernel_rfl
theorem Qo (z:Sem Value) (f:TypeId→Addr→Nat→Nat→Sem Value) (v:Value) :
  ReflectliteValue.method z f #[v]=(do match ← ReflectliteValue.parts v with|none=>z|some (t,a,fl)=>f t a fl (fl % 32)):=rfl
theorem Qp (a:Addr) (w:World) : (ReflectliteValue.parts (.agg #[.pointer (some ⟨9,111,none⟩),.pointer (some a),.int .u64 150])).run Tryz.prog w = .ok (some (111,a,150)) w:=by kernel_rfl
theorem Qq (a p:Addr) (W:World) (ha:W.cell? a=some (.pointer (some p))) :
  (ReflectliteValue.method (ReflectliteValue.valueError "reflectlite.Value.IsNil" 0) ReflectliteValue.isNil #[.agg #[.pointer (some ⟨9,111,none⟩),.pointer (some a),.int .u64 150]]).run Tryz.prog W = .ok (.bool false) W:=by
 rw [Qo];simp only [Sem.run_bind,Qp,Result.andThen];simp [ReflectliteValue.isNil,loadVar,isAgg,underlying,Tryz.underlying111,ha,Result.andThen]
theorem Qr (h:Value) (w:World) : (Go.method 420 210 (.agg #[h]) "Elem").run Tryz.prog w = .ok (220,.agg #[h]) w:=by kernel_rfl
theorem Qs (h:Value) (w:World) : (Go.method 420 210 (.agg #[h]) "Implements").run Tryz.prog w = .ok (221,.agg #[h]) w:=by kernel_rfl
theorem Qt (h:Value) (w:World) : (Go.method 420 210 (.agg #[h]) "AssignableTo").run Tryz.prog w = .ok (218,.agg #[h]) w:=by kernel_rfl
theorem Qu (w:World) : (ReflectliteType.method ReflectliteType.elem #[.agg #[.pointer (some ⟨9,111,none⟩)]]).run Tryz.prog w = .ok (.iface 210 (.agg #[.pointer (some ⟨9,46,none⟩)])) w:=by kernel_rfl
theorem Qv (w:World) : (ReflectliteType.relation "Implements" ReflectliteType.implements_ #[.agg #[.pointer (some ⟨9,46,none⟩)],.iface 210 (.agg #[.pointer (some ⟨9,34,none⟩)])]).run Tryz.prog w = .ok (.bool true) w:=by kernel_rfl
theorem Qw (v:Value) (w:World) : (ReflectliteType.typeOf #[.iface 46 v]).run Tryz.prog w = .ok (.iface 210 (.agg #[.pointer (some ⟨9,46,none⟩)])) w:=by kernel_rfl
theorem Qx (w:World) : (ReflectliteType.relation "AssignableTo" ReflectliteType.assignableTo #[.agg #[.pointer (some ⟨9,46,none⟩)],.iface 210 (.agg #[.pointer (some ⟨9,46,none⟩)])]).run Tryz.prog w = .ok (.bool true) w:=by kernel_rfl
theorem Qy (n:Int) (w:World) : (ReflectliteValue.unpack (.iface 46 (.int .i64 n))).run Tryz.prog w
  = .ok (.agg #[.pointer (some ⟨9,46,none⟩),.pointer (some ⟨w.heap.size,0,none⟩),.int .u64 130]) (w.alloc (.cells #[.int .i64 n] 46)):=by kernel_rfl
theorem ZB (w:World) : (Rtype.elem? 111).run Tryz.prog w = .ok (some 46) w:=by kernel_rfl
theorem ZC (p:Addr) (w:World) : (ReflectliteValue.mk 46 p ReflectliteValue.flagAddr).run Tryz.prog w = .ok (.agg #[.pointer (some ⟨9,46,none⟩),.pointer (some p),.int .u64 386]) w:=by kernel_rfl
theorem Qz (a p:Addr) (W:World) (ha:W.cell? a=some (.pointer (some p))) :
  (ReflectliteValue.method (ReflectliteValue.valueError "reflectlite.Value.Elem" 0) ReflectliteValue.elem #[.agg #[.pointer (some ⟨9,111,none⟩),.pointer (some a),.int .u64 150]]).run Tryz.prog W
   = .ok (.agg #[.pointer (some ⟨9,46,none⟩),.pointer (some p),.int .u64 386]) W:=by
 rw [Qo];simp only [Sem.run_bind,Qp,Result.andThen];simp [ReflectliteValue.elem,loadVar,isAgg,underlying,Tryz.underlying111,ha,Result.andThen,ZB,ZC]
theorem ZE (v x:Value):ReflectliteValue.set #[v,x]=(do
  let (some (dst,a,fl),some (src,b,_)):=(← ReflectliteValue.parts v,← ReflectliteValue.parts x)
   | unsupported (.noEntry "extern/(internal/reflectlite.Value).Set.zeroValue")
  if fl / ReflectliteValue.flagAddr % 2 == 0 then unsupported (.noEntry "extern/(internal/reflectlite.Value).Set.unaddressable")
  let val ← loadVar src b
  if ← Rtype.directlyAssignable dst src then storeVar dst a val
  else if ← Rtype.implements dst src then
   if (← Rtype.kind src) == 20 then
    match val with
    | .nilIface=>unsupported (.noEntry "extern/reflectlite: a nil value of one interface type handed on as a value of another")
    | _=>storeVar dst a val
   else storeVar dst a (.iface src val)
  else panicString ("reflectlite.Set: value of type " ++ (← Rtype.spelt src) ++ " is not assignable to type " ++ (← Rtype.spelt dst))
  pure (.tuple #[])):=rfl
theorem ZF (a:Addr) (w:World) : (ReflectliteValue.parts (.agg #[.pointer (some ⟨9,46,none⟩),.pointer (some a),.int .u64 386])).run Tryz.prog w = .ok (some (46,a,386)) w:=by kernel_rfl
theorem ZG (a:Addr) (w:World) : (ReflectliteValue.parts (.agg #[.pointer (some ⟨9,46,none⟩),.pointer (some a),.int .u64 130])).run Tryz.prog w = .ok (some (46,a,130)) w:=by kernel_rfl
theorem ZH (w:World) : (Rtype.directlyAssignable 46 46).run Tryz.prog w = .ok true w:=by kernel_rfl
theorem QA (ta b:Addr) (n:Int) (old:Value) (W:World) (hb:W.cell? b=some (.int .i64 n)) (ht:W.cell? ta=some old) (hf:W.frozen? ta=false) :
  (ReflectliteValue.set #[.agg #[.pointer (some ⟨9,46,none⟩),.pointer (some ta),.int .u64 386],.agg #[.pointer (some ⟨9,46,none⟩),.pointer (some b),.int .u64 130]]).run Tryz.prog W
   = .ok (.tuple #[]) (W.setCell ta (.int .i64 n)):=by
 rw [ZE];simp only [Sem.run_bind,ZF,ZG,Result.andThen];simp [ReflectliteValue.flagAddr,loadVar,isAgg,underlying,Tryz.underlying46,hb,Result.andThen,ZH,storeVar,Value.cells,storeCells,Addr.add]
 rw [run_store Tryz.prog W ta _ _ (by rfl)];simp [ht,hf]
set_option maxHeartbeats 4000000 in
theorem ZI (n:Int) (t:Addr) (old:Value) (w:World) (hg : w.cell? ⟨0,0,none⟩=some (.iface 210 (.agg #[.pointer (some ⟨9,34,none⟩)]))) (ht0 : w.cell? t=some old) (hf0 : w.frozen? t=false) :
  Calls Tryz.prog 44 #[.iface 46 (.int .i64 n),.iface 111 (.pointer (some t))] w fun ev w'=>ev = .returned (.bool true)∧w'=((((w.alloc (.cells #[.pointer (some t)] 111)).alloc (.cells #[.pointer (some ⟨9,111,none⟩),.pointer (some ⟨w.heap.size,0,none⟩),.int .u64 150] 173)).alloc (.cells #[.pointer (some ⟨9,111,none⟩),.pointer (some ⟨w.heap.size,0,none⟩),.int .u64 150] 173)).alloc (.cells #[.int .i64 n] 46)).setCell t (.int .i64 n):=by
 have h6:=@run_callFunc_extern Tryz.prog 83 _ (fun args=>ReflectliteValue.unpack (args.getD 0 (.tuple #[]))) Tryz.func83 (by kernel_rfl) (by kernel_rfl) (by kernel_rfl) (by kernel_rfl);have h7:=@run_callFunc_extern Tryz.prog 84 _ (ReflectliteValue.methodAny (ReflectliteValue.valueError "reflectlite.Value.Type" 0) (fun t _ _ _=>ReflectliteType.toType t)) Tryz.func84 (by kernel_rfl) (by kernel_rfl) (by kernel_rfl) (by kernel_rfl)
 have h8:=@run_callFunc_extern Tryz.prog 85 _ (ReflectliteValue.method (ReflectliteValue.valueError "reflectlite.Value.IsNil" 0) ReflectliteValue.isNil) Tryz.func85 (by kernel_rfl) (by kernel_rfl) (by kernel_rfl) (by kernel_rfl)
 have h27:=@run_callFunc_extern Tryz.prog 207 _ (ReflectliteType.abiMethod fun t=>do pure (.int .u8 (← Rtype.kind t))) Tryz.func207 (by kernel_rfl) (by kernel_rfl) (by kernel_rfl) (by kernel_rfl);have h37:=@run_callFunc_extern Tryz.prog 220 _ (ReflectliteType.method ReflectliteType.elem) Tryz.func220 (by kernel_rfl) (by kernel_rfl) (by kernel_rfl) (by kernel_rfl);have h38:=@run_callFunc_extern Tryz.prog 221 _ (ReflectliteType.relation "Implements" ReflectliteType.implements_) Tryz.func221 (by kernel_rfl) (by kernel_rfl) (by kernel_rfl) (by kernel_rfl)
 have h10:=@run_callFunc_extern Tryz.prog 118 _ (ReflectliteType.typeOf) Tryz.func118 (by kernel_rfl) (by kernel_rfl) (by kernel_rfl) (by kernel_rfl);have h35:=@run_callFunc_extern Tryz.prog 218 _ (ReflectliteType.relation "AssignableTo" ReflectliteType.assignableTo) Tryz.func218 (by kernel_rfl) (by kernel_rfl) (by kernel_rfl) (by kernel_rfl)
 have h11:=@run_callFunc_extern Tryz.prog 119 _ (ReflectliteValue.method (ReflectliteValue.valueError "reflectlite.Value.Elem" 0) ReflectliteValue.elem) Tryz.func119 (by kernel_rfl) (by kernel_rfl) (by kernel_rfl) (by kernel_rfl)
 have h12:=@run_callFunc_extern Tryz.prog 120 _ (ReflectliteValue.set) Tryz.func120 (by kernel_rfl) (by kernel_rfl) (by kernel_rfl) (by kernel_rfl);have tO:=Qw;have mA:=Qt;have a25:=Qx;have v25:=Qy;have f6:=Qi;have f7:=Qj;have mK:=Qk;have mE:=Qr;have mI:=Qs;have k27:=Ql;have k25:=Qn;have e27:=Qu;have i25:=Qv;have n8:=Qq ⟨w.heap.size,0,none⟩ t ((w.alloc (.cells #[.pointer (some t)] 111)).alloc (.cells #[.pointer (some ⟨9,111,none⟩),.pointer (some ⟨w.heap.size,0,none⟩),.int .u64 150] 173)) (by simp);have hlt : 0 < w.heap.size:=by
  rcases Nat.lt_or_ge 0 w.heap.size with h|h
  ·exact h
  ·simp [World.cell?,Array.getElem?_eq_none h] at hg
 have hg2 : ((w.alloc (.cells #[.pointer (some t)] 111)).alloc (.cells #[.pointer (some ⟨9,111,none⟩),.pointer (some ⟨w.heap.size,0,none⟩),.int .u64 150] 173)).cell? ⟨0,0,none⟩=some (.iface 210 (.agg #[.pointer (some ⟨9,34,none⟩)])):=by
  rw [World.cell?_alloc_lt _ _ ⟨0,0,none⟩ (by simp <;> omega),World.cell?_alloc_lt _ _ ⟨0,0,none⟩ hlt];exact hg
 have htl : t.block < w.heap.size:=by
  rcases Nat.lt_or_ge t.block w.heap.size with h|h
  ·exact h
  ·simp [World.cell?,Array.getElem?_eq_none h] at ht0
 have el:=Qz ⟨w.heap.size,0,none⟩ t (((w.alloc (.cells #[.pointer (some t)] 111)).alloc (.cells #[.pointer (some ⟨9,111,none⟩),.pointer (some ⟨w.heap.size,0,none⟩),.int .u64 150] 173)).alloc (.cells #[.pointer (some ⟨9,111,none⟩),.pointer (some ⟨w.heap.size,0,none⟩),.int .u64 150] 173)) (by rw [World.cell?_alloc_lt _ _ ⟨w.heap.size,0,none⟩ (by simp <;> omega)];simp);have st:=QA t ⟨w.heap.size + 1 + 1 + 1,0,none⟩ n old ((((w.alloc (.cells #[.pointer (some t)] 111)).alloc (.cells #[.pointer (some ⟨9,111,none⟩),.pointer (some ⟨w.heap.size,0,none⟩),.int .u64 150] 173)).alloc (.cells #[.pointer (some ⟨9,111,none⟩),.pointer (some ⟨w.heap.size,0,none⟩),.int .u64 150] 173)).alloc (.cells #[.int .i64 n] 46))
  (by rw [World.cell?_alloc_at _ _ _ _ (by simp)];rfl)
  (by rw [World.cell?_alloc_lt _ _ t (by simp <;> omega),World.cell?_alloc_lt _ _ t (by simp <;> omega),World.cell?_alloc_lt _ _ t (by simp <;> omega),World.cell?_alloc_lt _ _ t htl];exact ht0)
  (by rw [World.frozen?_alloc_old _ _ t (by simp <;> omega),World.frozen?_alloc_old _ _ t (by simp <;> omega),World.frozen?_alloc_old _ _ t (by simp <;> omega),World.frozen?_alloc_old _ _ t (Nat.ne_of_lt htl)];exact hf0)
 go_enter Tryz.func44,Tryz.ntmps44
 go_wp2
 refine wp_loop_rounds 1 ?_;rw [rounds_succ]
 go_wp2
 go_ret
 exact⟨rfl,rfl⟩
end Go.Proofs.YtechofppmnnomaaGreatDoor
namespace Go.Proofs.YtechofppmnnomaaGreatDoor
open Go Go.RowKit Go.Extern.Stop Go.Stop Go.Extern Go.Mq
set_option maxRecDepth 100000
def kH (w:World):Prop:=w.cell? ⟨0,0,none⟩=some (.iface 210 (.agg #[.pointer (some ⟨9,34,none⟩)]))
theorem kH.kept {S:List Nat} {w w':World} (h:kH w) (hc:ae S w w') (hn : 0∉S):kH w':=hc.aH h hn
theorem ZJ (w:World):Calls Tryz.prog 15 #[.nilIface] w fun e w'=>e = .returned (.int .i64 0)∧w'=w:=by
 go_enter Tryz.func15,Tryz.ntmps15
 go_wp2_with fail;go_ret
 exact⟨rfl,rfl⟩
theorem ZK (n:Int) (t:Addr) (old:Value) (w:World) (hg:kH w) (ht0 : w.cell? t=some old) (hf0 : w.frozen? t=false) :
  Calls Tryz.prog 44 #[.iface 46 (.int .i64 n),.iface 111 (.pointer (some t))] w fun ev w'=>ev = .returned (.bool true)∧w'.cell? t=some (.int .i64 n)∧ae [t.block] w w':=by
 refine(ZI n t old w hg ht0 hf0).mono ?_;rintro _ w' ⟨rfl,hw⟩;have hc:ae [] w ((((w.alloc (.cells #[.pointer (some t)] 111)).alloc (.cells #[.pointer (some ⟨9,111,none⟩),.pointer (some ⟨w.heap.size,0,none⟩),.int .u64 150] 173)).alloc (.cells #[.pointer (some ⟨9,111,none⟩),.pointer (some ⟨w.heap.size,0,none⟩),.int .u64 150] 173)).alloc (.cells #[.int .i64 n] 46)):=((((ae.refl [] w).alloc _).alloc _).alloc _).alloc _;refine⟨rfl,?_,?_⟩
 ·rw [hw,World.cell?_setCell_same _ _ _ (hc.aH ht0 (by simp))]
 ·rw [hw]
  exact ae.setCell (hc.mono (by simp)) _ (.inl (by simp)) _
theorem ZL (n:Int) (w:World) (hg:kH w):Calls Tryz.prog 15 #[.iface 46 (.int .i64 n)] w fun e w'=>e = .returned (.int .i64 n)∧ae [] w w':=by
 have HG:=zh hg;clear hg
 go_enter Tryz.func15,Tryz.ntmps15
 go_wp2_with fail;have hg1:kH (w.alloc (.cells #[.int .i64 0] 46)):=HG.out.kept ((ae.refl [] w).alloc _) (by simp);refine(ZK n ⟨w.heap.size,0,none⟩ (.int .i64 0) _ hg1 (by simp) (by simp)).mono ?_;rintro _ w' ⟨rfl,hcell,hc⟩;have hc:ae [] w w':=(((ae.refl [] w).alloc (.cells #[.int .i64 0] 46)).trans hc (by simp));have HC:=zh hc;clear hc hg1;go_wp2_with fail;go_ret
 exact⟨rfl,HC.out⟩
end Go.Proofs.YtechofppmnnomaaGreatDoor
namespace Go.Proofs.YtechofppmnnomaaGreatDoor
open Go Go.RowKit Go.Extern.Stop Go.Stop Go.Extern Go.Mq
set_option maxRecDepth 100000
theorem ZM (v:Value) (w:World) : (ReflectliteType.typeOf #[.iface 140 v]).run Tryz.prog w = .ok (.iface 210 (.agg #[.pointer (some ⟨9,140,none⟩)])) w:=by kernel_rfl
theorem ZN (w:World) : (ReflectliteType.relation "AssignableTo" ReflectliteType.assignableTo #[.agg #[.pointer (some ⟨9,140,none⟩)],.iface 210 (.agg #[.pointer (some ⟨9,46,none⟩)])]).run Tryz.prog w = .ok (.bool false) w:=by kernel_rfl
theorem ZO (h:Value) (w:World) : (Go.method 420 140 h "Unwrap").run Tryz.prog w = .ok (213,h) w:=by kernel_rfl
set_option maxHeartbeats 4000000 in
theorem ZP (n:Int) (b:Nat) (t:Addr) (old:Value) (w:World) (hg : w.cell? ⟨0,0,none⟩=some (.iface 210 (.agg #[.pointer (some ⟨9,34,none⟩)]))) (ht0 : w.cell? t=some old) (hf0 : w.frozen? t=false) (hb0 : w.cell? ⟨b,0,none⟩=some (.int .i64 n)) :
  Calls Tryz.prog 44 #[.iface 140 (.pointer (some ⟨b,0,none⟩)),.iface 111 (.pointer (some t))] w fun ev w'=>ev = .returned (.bool true)∧w'=((((w.alloc (.cells #[.pointer (some t)] 111)).alloc (.cells #[.pointer (some ⟨9,111,none⟩),.pointer (some ⟨w.heap.size,0,none⟩),.int .u64 150] 173)).alloc (.cells #[.pointer (some ⟨9,111,none⟩),.pointer (some ⟨w.heap.size,0,none⟩),.int .u64 150] 173)).alloc (.cells #[.int .i64 n] 46)).setCell t (.int .i64 n):=by
 have h6:=@run_callFunc_extern Tryz.prog 83 _ (fun args=>ReflectliteValue.unpack (args.getD 0 (.tuple #[]))) Tryz.func83 (by kernel_rfl) (by kernel_rfl) (by kernel_rfl) (by kernel_rfl);have h7:=@run_callFunc_extern Tryz.prog 84 _ (ReflectliteValue.methodAny (ReflectliteValue.valueError "reflectlite.Value.Type" 0) (fun t _ _ _=>ReflectliteType.toType t)) Tryz.func84 (by kernel_rfl) (by kernel_rfl) (by kernel_rfl) (by kernel_rfl)
 have h8:=@run_callFunc_extern Tryz.prog 85 _ (ReflectliteValue.method (ReflectliteValue.valueError "reflectlite.Value.IsNil" 0) ReflectliteValue.isNil) Tryz.func85 (by kernel_rfl) (by kernel_rfl) (by kernel_rfl) (by kernel_rfl)
 have h27:=@run_callFunc_extern Tryz.prog 207 _ (ReflectliteType.abiMethod fun t=>do pure (.int .u8 (← Rtype.kind t))) Tryz.func207 (by kernel_rfl) (by kernel_rfl) (by kernel_rfl) (by kernel_rfl);have h37:=@run_callFunc_extern Tryz.prog 220 _ (ReflectliteType.method ReflectliteType.elem) Tryz.func220 (by kernel_rfl) (by kernel_rfl) (by kernel_rfl) (by kernel_rfl);have h38:=@run_callFunc_extern Tryz.prog 221 _ (ReflectliteType.relation "Implements" ReflectliteType.implements_) Tryz.func221 (by kernel_rfl) (by kernel_rfl) (by kernel_rfl) (by kernel_rfl)
 have h10:=@run_callFunc_extern Tryz.prog 118 _ (ReflectliteType.typeOf) Tryz.func118 (by kernel_rfl) (by kernel_rfl) (by kernel_rfl) (by kernel_rfl);have h35:=@run_callFunc_extern Tryz.prog 218 _ (ReflectliteType.relation "AssignableTo" ReflectliteType.assignableTo) Tryz.func218 (by kernel_rfl) (by kernel_rfl) (by kernel_rfl) (by kernel_rfl)
 have h11:=@run_callFunc_extern Tryz.prog 119 _ (ReflectliteValue.method (ReflectliteValue.valueError "reflectlite.Value.Elem" 0) ReflectliteValue.elem) Tryz.func119 (by kernel_rfl) (by kernel_rfl) (by kernel_rfl) (by kernel_rfl)
 have h12:=@run_callFunc_extern Tryz.prog 120 _ (ReflectliteValue.set) Tryz.func120 (by kernel_rfl) (by kernel_rfl) (by kernel_rfl) (by kernel_rfl);have tO:=Qw;have mA:=Qt;have a25:=Qx;have v25:=Qy;have f6:=Qi;have f7:=Qj;have mK:=Qk;have mE:=Qr;have mI:=Qs;have k27:=Ql;have k25:=Qn;have e27:=Qu;have i25:=Qv;have n8:=Qq ⟨w.heap.size,0,none⟩ t ((w.alloc (.cells #[.pointer (some t)] 111)).alloc (.cells #[.pointer (some ⟨9,111,none⟩),.pointer (some ⟨w.heap.size,0,none⟩),.int .u64 150] 173)) (by simp);have hlt : 0 < w.heap.size:=by
  rcases Nat.lt_or_ge 0 w.heap.size with h|h
  ·exact h
  ·simp [World.cell?,Array.getElem?_eq_none h] at hg
 have hg2 : ((w.alloc (.cells #[.pointer (some t)] 111)).alloc (.cells #[.pointer (some ⟨9,111,none⟩),.pointer (some ⟨w.heap.size,0,none⟩),.int .u64 150] 173)).cell? ⟨0,0,none⟩=some (.iface 210 (.agg #[.pointer (some ⟨9,34,none⟩)])):=by
  rw [World.cell?_alloc_lt _ _ ⟨0,0,none⟩ (by simp <;> omega),World.cell?_alloc_lt _ _ ⟨0,0,none⟩ hlt];exact hg
 have htl : t.block < w.heap.size:=by
  rcases Nat.lt_or_ge t.block w.heap.size with h|h
  ·exact h
  ·simp [World.cell?,Array.getElem?_eq_none h] at ht0
 have el:=Qz ⟨w.heap.size,0,none⟩ t (((w.alloc (.cells #[.pointer (some t)] 111)).alloc (.cells #[.pointer (some ⟨9,111,none⟩),.pointer (some ⟨w.heap.size,0,none⟩),.int .u64 150] 173)).alloc (.cells #[.pointer (some ⟨9,111,none⟩),.pointer (some ⟨w.heap.size,0,none⟩),.int .u64 150] 173)) (by rw [World.cell?_alloc_lt _ _ ⟨w.heap.size,0,none⟩ (by simp <;> omega)];simp);have st:=QA t ⟨w.heap.size + 1 + 1 + 1,0,none⟩ n old ((((w.alloc (.cells #[.pointer (some t)] 111)).alloc (.cells #[.pointer (some ⟨9,111,none⟩),.pointer (some ⟨w.heap.size,0,none⟩),.int .u64 150] 173)).alloc (.cells #[.pointer (some ⟨9,111,none⟩),.pointer (some ⟨w.heap.size,0,none⟩),.int .u64 150] 173)).alloc (.cells #[.int .i64 n] 46))
  (by rw [World.cell?_alloc_at _ _ _ _ (by simp)];rfl)
  (by rw [World.cell?_alloc_lt _ _ t (by simp <;> omega),World.cell?_alloc_lt _ _ t (by simp <;> omega),World.cell?_alloc_lt _ _ t (by simp <;> omega),World.cell?_alloc_lt _ _ t htl];exact ht0)
  (by rw [World.frozen?_alloc_old _ _ t (by simp <;> omega),World.frozen?_alloc_old _ _ t (by simp <;> omega),World.frozen?_alloc_old _ _ t (by simp <;> omega),World.frozen?_alloc_old _ _ t (Nat.ne_of_lt htl)];exact hf0)
 have tA:=ZM;have aA:=ZN;have nA : ∀ v w,(Instr.typeAssert (.iface 140 v) 34 215 true).run Tryz.prog w = .ok (.tuple #[.nilIface,.bool false]) w:=fun v w=>run_typeAssert_lacksB (z:=.nilIface) Tryz.underlying215 (by kernel_rfl) (by kernel_rfl) v 34 w
 have uA : ∀ v w,(Instr.typeAssert (.iface 140 v) 34 218 true).run Tryz.prog w = .ok (.tuple #[.iface 140 v,.bool true]) w:=fun v w=>run_typeAssert_hasB Tryz.underlying218 (by kernel_rfl) v 34 w
 have mA:=ZO;have hbl : b < w.heap.size:=by
  rcases Nat.lt_or_ge b w.heap.size with h|h
  ·exact h
  ·simp [World.cell?,Array.getElem?_eq_none h] at hb0
 have hb3 : (((w.alloc (.cells #[.pointer (some t)] 111)).alloc (.cells #[.pointer (some ⟨9,111,none⟩),.pointer (some ⟨w.heap.size,0,none⟩),.int .u64 150] 173)).alloc (.cells #[.pointer (some ⟨9,111,none⟩),.pointer (some ⟨w.heap.size,0,none⟩),.int .u64 150] 173)).cell? ⟨b,0,none⟩=some (.int .i64 n):=by
  rw [World.cell?_alloc_lt _ _ ⟨b,0,none⟩ (by simp <;> omega),World.cell?_alloc_lt _ _ ⟨b,0,none⟩ (by simp <;> omega),World.cell?_alloc_lt _ _ ⟨b,0,none⟩ hbl];exact hb0
 go_enter Tryz.func44,Tryz.ntmps44
 go_wp2
 refine wp_loop_rounds 2 ?_;rw [rounds_succ]
 go_wp2
 rw [rounds_succ]
 go_wp2
 go_ret
 exact⟨rfl,rfl⟩
theorem ZQ (n:Int) (b:Nat) (t:Addr) (old:Value) (w:World) (hg:kH w) (ht0 : w.cell? t=some old) (hf0 : w.frozen? t=false) (hb0 : w.cell? ⟨b,0,none⟩=some (.int .i64 n)) :
  Calls Tryz.prog 44 #[.iface 140 (.pointer (some ⟨b,0,none⟩)),.iface 111 (.pointer (some t))] w fun ev w'=>ev = .returned (.bool true)∧w'.cell? t=some (.int .i64 n)∧ae [t.block] w w':=by
 refine(ZP n b t old w hg ht0 hf0 hb0).mono ?_;rintro _ w' ⟨rfl,hw⟩;have hc:ae [] w ((((w.alloc (.cells #[.pointer (some t)] 111)).alloc (.cells #[.pointer (some ⟨9,111,none⟩),.pointer (some ⟨w.heap.size,0,none⟩),.int .u64 150] 173)).alloc (.cells #[.pointer (some ⟨9,111,none⟩),.pointer (some ⟨w.heap.size,0,none⟩),.int .u64 150] 173)).alloc (.cells #[.int .i64 n] 46)):=((((ae.refl [] w).alloc _).alloc _).alloc _).alloc _;refine⟨rfl,?_,?_⟩
 ·rw [hw,World.cell?_setCell_same _ _ _ (hc.aH ht0 (by simp))]
 ·rw [hw]
  exact ae.setCell (hc.mono (by simp)) _ (.inl (by simp)) _
theorem ZR (n:Int) (b:Nat) (w:World) (hg:kH w) (hb0 : w.cell? ⟨b,0,none⟩=some (.int .i64 n)):Calls Tryz.prog 15 #[.iface 140 (.pointer (some ⟨b,0,none⟩))] w fun e w'=>e = .returned (.int .i64 n)∧ae [] w w':=by
 have HG:=zh hg;have HB:=zh hb0;clear hg hb0
 go_enter Tryz.func15,Tryz.ntmps15
 go_wp2_with fail;have hg1:kH (w.alloc (.cells #[.int .i64 0] 46)):=HG.out.kept ((ae.refl [] w).alloc _) (by simp);refine(ZQ n b ⟨w.heap.size,0,none⟩ (.int .i64 0) _ hg1 (by simp) (by simp) (((ae.refl [] w).alloc _).aH HB.out (by simp))).mono ?_;rintro _ w' ⟨rfl,hcell,hc⟩;have hc:ae [] w w':=(((ae.refl [] w).alloc (.cells #[.int .i64 0] 46)).trans hc (by simp));have HC:=zh hc;clear hc hg1;go_wp2_with fail;go_ret
 exact⟨rfl,HC.out⟩
end Go.Proofs.YtechofppmnnomaaGreatDoor
