/- Some texts in one. -/
import Derived.Test.YtechofppmnnomaaGreatDoorB1
import Derived.Test.YtechofppmnnomaaGreatDoorB7
namespace Go.Mq.Tree
open Go Go.RowKit Go.Mq
theorem YB (w:World) (n:Nat) (os:Array Obj):ae [] w (Go.Sort.grow (w.drewN n) os):=by
 refine⟨rfl,rfl,rfl,by simp [Go.Sort.grow,World.drewN],fun k hk _=>?_⟩;simp only [Go.Sort.grow,World.drewN];rw [Array.getElem?_append_left hk]
theorem oK (a b:List UInt8) : bs (a ++ b)=bs a ++ bs b:=by
 apply ByteArray.ext
 simp [bs]
end Go.Mq.Tree
namespace Go.Proofs.YtechofppmnnomaaGreatDoor
open Go Go.RowKit Go.Mq Go.Mq.Tree
set_option maxRecDepth 100000
set_option maxHeartbeats 1000000
theorem YC (n:Int) (h0 : 0≤n) (h1 : n≤9223372036854775807) (w:World) (B:Nat) (hL:Laid w B):Calls Tryz.prog 61 #[.int .i64 n] w (fun e w'=>e = .returned (str (Lib.itoa n))∧ae [] w w'):=by
 refine(Any.strconv_Itoa Tryz.YD n (by omega) h1 w hL.tab).mono ?_;rintro e w' ⟨rfl,k,os,rfl⟩;exact⟨rfl,YB _ _ _⟩
end Go.Proofs.YtechofppmnnomaaGreatDoor
