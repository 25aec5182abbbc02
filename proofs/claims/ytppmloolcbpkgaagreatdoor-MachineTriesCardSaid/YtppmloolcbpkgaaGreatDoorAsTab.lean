import Derived.Test.YtppmloolcbpkgaaGreatDoorAsCore
import GoSem.Core.View
import GoSem.Core.Layout
import GoSem.Op.Equal
namespace Go.As
def isAggV : Value → Bool
  | .agg _ => true
  | _ => false

def tkOf (P : Program) : TypeDesc → Option TK
  | .bool => some .bool
  | .int k => some (.int k)
  | .string => some .string
  | .pointer e => some (.pointer e)
  | .slice e => some (.slice e)
  | .array n e => some (.array n e)
  | .map k e => some (.map k e)
  | .struct fs => (fs.toList.mapM fun f => (P.info? f.type).map fun i => (f.offset, f.type, i.size)).map .struct
  | .func _ _ _ => some .func
  | .interface ms => some (.iface ms.isEmpty)
  | .tuple _ => some .tuple
  | _ => none

/-- a struct of numbers, texts and truths alone, whose '==' is theirs -/
def eqsOf (P : Program) (t : Nat) : Bool :=
  match P.underlying t with
  | some (.struct fs) => !P.stoodInHeld t && !P.eqGuardType P.depth t && fs.toList.all fun f => f.name != "_" && (match P.underlying f.type with | some .bool | some .string | some (.int _) => true | _ => false)
  | _ => false

def tiMk (i : TypeInfo) (z : Value) (k : TK) (q : Bool) : Option TI :=
  match ofScalars z.cells.toList with
  | some zs => if isAggV z = k.agg then some { kind := k, size := i.size, bytes := i.bytes, zero := zs, eqs := q } else none
  | none => none

/-- the table's entry of a type, out of the program -/
def tiOf (P : Program) (t : Nat) : Option TI :=
  match P.info? t with
  | none => none
  | some i => match P.underlying t with
    | none => none
    | some d => match tkOf P d with
      | none => none
      | some k => match i.zero with
        | none => none
        | some z => tiMk i z k (eqsOf P t)
end Go.As
