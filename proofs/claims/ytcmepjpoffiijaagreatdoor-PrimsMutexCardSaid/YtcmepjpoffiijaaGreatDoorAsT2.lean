import Derived.Test.YtcmepjpoffiijaaGreatDoorAsT1
import Derived.Test.YtcmepjpoffiijaaGreatDoorAsSeat
import Derived.Shelf.Lay
import Derived.Shelf.Strings.Search3
import Derived.Shelf.LaysM
import Derived.Shelf.Strings.Shaped
namespace Go.As.Try
open Go Go.As Go.Proofs
set_option maxRecDepth 100000
theorem types_eq : (List.range 262).map tab.get = (List.range 262).map (tiOf Tryz.prog) := by kernel_rfl
theorem funcs_eq : (List.range 225).map ftab.get = (List.range 225).map (fun g => Tryz.prog.funcs[g]?) := by kernel_rfl
theorem funcs_ok : (List.range 225).all (fun g => match ftab.get g with | some f => okFn (chkH (lim 262 tab) (hAt htab) g) f | none => true) = true := by kernel_rfl
theorem mixed : Tryz.prog.follows .mixedOrders = true := by kernel_rfl
end Go.As.Try
namespace Go.Proofs
open Go.Shelf
shelf_lay LaysM.n144 Nm 144 at Tryz as Tryz.laysM144
end Go.Proofs
#print axioms Go.Proofs.Tryz.laysM144
