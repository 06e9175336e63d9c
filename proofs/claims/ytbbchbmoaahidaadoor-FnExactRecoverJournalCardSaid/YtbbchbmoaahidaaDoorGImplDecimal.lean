-- written by this claim's own program out of the translation
import Derived.Test.YtbbchbmoaahidaaDoorG0
namespace Go.Proofs.YtbbchbmoaahidaaDoor.G
open Go.RowKit Go.Proofs.YtbbchbmoaahidaaDoorW.PrintWords Go.Proofs.YtbbchbmoaahidaaDoorW.PrintLast Go.Proofs.YtbbchbmoaahidaaDoorW.PrintMore
attribute [local go_sem] max2_int min2_int max_two min_two max_three min_three max_four min_four   -- for this text's walks alone
set_option linter.unusedVariables false
set_option linter.unusedSimpArgs false

/-! ### impl_Decimal: function 38 -/
def impl_Decimal.f (a0 : Int) : Option (ByteArray) := if -9223372036854775808 ≤ a0 ∧ a0 ≤ 9223372036854775807 then some (itoaB a0) else none
theorem impl_Decimal.calls (a0 : Int) (r : ByteArray) (w : World) (hT : Tabs w) (h : impl_Decimal.f a0 = some r) :
    Calls Tryd.prog 38 #[.int .i64 a0] w fun e w' => e = .returned (.string r) ∧ Below w.heap.size w w' := by
  unfold impl_Decimal.f at h
  by_cases hs : -9223372036854775808 ≤ a0 ∧ a0 ≤ 9223372036854775807
  · rw [if_pos hs] at h
    obtain rfl := Option.some.inj h
    have hcon := Tryd.strconv_FormatInt_10 a0 hs.1 hs.2 w hT.pow
    change Calls Tryd.prog 59 _ _ (fun e w' => e = .returned (.string (itoaB a0)) ∧ ∃ k os, w' = Go.Sort.grow (w.drewN k) os) at hcon
    generalize itoaB a0 = r at hcon ⊢
    have HC := Aside0.mk hcon
    clear hcon
    go_enter Tryd.func38, Tryd.ntmps38
    go_wp2_with (go_at_call 59; refine HC.out.mono ?_; rintro e w1 ⟨rfl, k, os, rfl⟩)
    go_ret
    exact ⟨rfl, below_grow _ _ (Nat.le_refl _) _ _⟩
  · rw [if_neg hs] at h; cases h

end Go.Proofs.YtbbchbmoaahidaaDoor.G
