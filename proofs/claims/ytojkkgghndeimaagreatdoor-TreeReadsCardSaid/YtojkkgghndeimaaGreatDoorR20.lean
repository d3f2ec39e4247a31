/- Some texts in one. -/
import Derived.Test.YtojkkgghndeimaaGreatDoorR5
namespace Go.Mq
open Go Go.RowKit
section
variable {P:Program}
variable {ops:Array Oper} {o:Oper} {rest:List Oper} {a:Act} {w:World} {Q:Exit→Act→World→Prop} {E:Oper→Bool} {S:World→Prop} {R:Act→World→Prop}
end
end Go.Mq
