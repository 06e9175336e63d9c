/- More plain words of this claim: what a console is. -/
import Derived.Test.YtainlbmedpljlaaDoorPlain
set_option linter.unusedVariables false
namespace Go.Proofs.YtainlbmedpljlaaDoor
open Go.RowKit Go.Proofs.YtainlbmedpljlaaDoorW.PrintWords
/-- Bits that are not too many. -/
def bits400 (s : ByteArray) : Bool := bitsB s && decide (s.size ≤ 400)
/-- Names that rise, each with its bits. -/
def vgo : List ByteArray → List ByteArray → Option ByteArray → Bool
  | [], _, _ => true
  | _ :: _, [], _ => true
  | n :: ns, b :: bs, p => nameB n && (match p with | none => true | some q => Op.bytesLess q.toList n.toList) && bits400 b && vgo ns bs (some n)
def vcon (l0 l1 : List ByteArray) : Bool := decide (l0.length ≤ 6) && decide (l1.length = l0.length) && vgo l0 l1 none
/-- .. from a place on. -/
def vat (l0 l1 : List ByteArray) (i : Nat) : Bool := vgo (l0.drop i) (l1.drop i) (if i = 0 then none else l0[i - 1]?)
theorem vat_end (l0 l1 : List ByteArray) (i : Nat) (h : l0.length ≤ i) : vat l0 l1 i = true := by
  unfold vat; rw [List.drop_eq_nil_of_le h]; rfl
theorem vat_zero (l0 l1 : List ByteArray) (h : 0 < l0.length) (h1 : l1.length = l0.length) : vat l0 l1 0 = (nameB (rdOf ByteArray.empty l0 0) && bits400 (rdOf ByteArray.empty l1 0) && vat l0 l1 1) := by
  have e0 := rdOf_at ByteArray.empty l0 0 h
  have e1 := rdOf_at ByteArray.empty l1 0 (by omega)
  simp only [Int.natCast_zero] at e0 e1
  rw [e0, e1]
  unfold vat
  rw [drop_at l0 0 h, drop_at l1 0 (by omega)]
  simp only [vgo, Bool.and_true, Nat.zero_add, if_pos]
  rw [if_neg (by omega), show 1 - 1 = 0 by rfl, List.getElem?_eq_getElem h]
theorem vat_succ (l0 l1 : List ByteArray) (i : Nat) (h : i + 1 < l0.length) (h1 : l1.length = l0.length) : vat l0 l1 (i + 1) = (nameB (rdOf ByteArray.empty l0 ((i + 1 : Nat) : Int)) && Op.bytesLess (rdOf ByteArray.empty l0 (i : Int)).toList (rdOf ByteArray.empty l0 ((i + 1 : Nat) : Int)).toList && bits400 (rdOf ByteArray.empty l1 ((i + 1 : Nat) : Int)) && vat l0 l1 (i + 2)) := by
  rw [rdOf_at _ l0 (i + 1) h, rdOf_at _ l0 i (by omega), rdOf_at _ l1 (i + 1) (by omega)]
  unfold vat
  rw [drop_at l0 (i + 1) h, drop_at l1 (i + 1) (by omega), if_neg (by omega), if_neg (by omega), show i + 1 - 1 = i by omega, show i + 2 - 1 = i + 1 by omega, List.getElem?_eq_getElem (show i < l0.length by omega), List.getElem?_eq_getElem h]
  simp only [vgo]
end Go.Proofs.YtainlbmedpljlaaDoor
