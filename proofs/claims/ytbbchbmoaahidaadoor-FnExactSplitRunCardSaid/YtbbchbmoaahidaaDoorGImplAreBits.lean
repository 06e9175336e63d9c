-- written by this claim's own program out of the translation
import Derived.Test.YtbbchbmoaahidaaDoorG0
namespace Go.Proofs.YtbbchbmoaahidaaDoor.G
open Go.RowKit Go.Proofs.YtbbchbmoaahidaaDoorW.PrintWords Go.Proofs.YtbbchbmoaahidaaDoorW.PrintLast Go.Proofs.YtbbchbmoaahidaaDoorW.PrintMore
attribute [local go_sem] max2_int min2_int max_two min_two max_three min_three max_four min_four   -- for this text's walks alone
set_option linter.unusedVariables false
set_option linter.unusedSimpArgs false

/-! ### impl_areBits: function 43 -/
def impl_areBits.f (a0 : ByteArray) : Option (Bool) := if a0.size ≤ 9223372036854775807 then some (bitsB a0) else none
theorem impl_areBits.drop (p : UInt8 → Bool) : ∀ l : List UInt8, (l.dropWhile p).isEmpty = l.all p
  | [] => rfl
  | c :: l => by
    by_cases h : p c = true
    · simp [List.dropWhile, h, impl_areBits.drop p l]
    · simp [List.dropWhile, h]
theorem impl_areBits.trim (s : ByteArray) : (Lib.trimS s.data.toList [48, 49]).isEmpty = bitsB s := by
  have hc : (fun c : UInt8 => ([48, 49] : List UInt8).contains c) = fun c => c == 48 || c == 49 := by
    funext c
    simp [List.contains, List.elem]
    cases h1 : c == 48 <;> cases h2 : c == 49 <;> rfl
  unfold bitsB Lib.trimS Lib.trimLeftS Lib.trimRightS
  rw [hc, impl_areBits.drop]
  generalize (fun c : UInt8 => c == 48 || c == 49) = p
  show (s.data.toList.reverse.dropWhile p).reverse.all p = s.data.toList.all p
  generalize s.data.toList = l
  rw [List.all_reverse]
  by_cases h : l.all p = true
  · rw [h]
    have : l.reverse.dropWhile p = [] := by
      have e := impl_areBits.drop p l.reverse
      rw [List.all_reverse, h] at e
      simpa using e
    rw [this]; rfl
  · have h' : l.all p = false := by simpa using h
    rw [h']
    have e := impl_areBits.drop p l.reverse
    rw [List.all_reverse, h'] at e
    rcases hd : l.reverse.dropWhile p with _ | ⟨c, r⟩
    · rw [hd] at e; cases e
    · have : p c = false := by
        have := List.head?_dropWhile_not p l.reverse
        rw [hd] at this
        simpa using this
      simp [this]
set_option maxHeartbeats 400000 in
theorem impl_areBits.calls (a0 : ByteArray) (r : Bool) (w : World) (h : impl_areBits.f a0 = some r) :
    Calls Tryd.prog 43 #[.string a0] w fun e w' => e = .returned (.bool r) ∧ Below w.heap.size w w' := by
  unfold impl_areBits.f at h
  by_cases hs : a0.size ≤ 9223372036854775807
  · rw [if_pos hs] at h
    obtain rfl := Option.some.inj h
    clear h
    have hcon := Any.strings_Trim_laid Tryd.lays160 (by kernel_rfl) a0 ⟨#[48, 49]⟩ w hs (by decide) (ascii_of_all (by decide))
    change Calls Tryd.prog 61 _ _ (fun e w' => e = .returned (.string ⟨(Lib.trimS a0.data.toList [48, 49]).toArray⟩) ∧ Below w.heap.size w w') at hcon
    have ht := Aside0.mk (impl_areBits.trim a0)
    generalize Lib.trimS a0.data.toList [48, 49] = t at hcon ht
    have HC := Aside0.mk hcon
    clear hcon
    go_enter Tryd.func43, Tryd.ntmps43
    go_wp2_with (go_at_call 61; refine HC.out.mono ?_; rintro e w1 ⟨rfl, hb⟩)
    go_ret
    rw [← ht.out]
    exact ⟨by simp, hb⟩
  · rw [if_neg hs] at h; cases h

end Go.Proofs.YtbbchbmoaahidaaDoor.G
