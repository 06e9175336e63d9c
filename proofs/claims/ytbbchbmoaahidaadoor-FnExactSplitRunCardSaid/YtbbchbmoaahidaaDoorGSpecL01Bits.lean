-- written by this claim's own program out of the translation
import Derived.Test.YtbbchbmoaahidaaDoorG0
namespace Go.Proofs.YtbbchbmoaahidaaDoor.G
open Go.RowKit Go.Proofs.YtbbchbmoaahidaaDoorW.PrintWords Go.Proofs.YtbbchbmoaahidaaDoorW.PrintLast Go.Proofs.YtbbchbmoaahidaaDoorW.PrintMore
attribute [local go_sem] max2_int min2_int max_two min_two max_three min_three max_four min_four   -- for this text's walks alone
set_option linter.unusedVariables false
set_option linter.unusedSimpArgs false

/-! ### spec_l01Bits: function 55 -/
def spec_l01Bits.l0 : Nat → ByteArray → Int → Option (Bool)
  | 0, _, _ => none
  | k + 1, x0, x3 => if x3 < (x0.size : Int) then (if 0 ≤ x3 then (if (bt x0 x3) = 48 then (spec_l01Bits.l0 k x0 (wrap64 (x3 + 1))) else (if (bt x0 x3) = 49 then (spec_l01Bits.l0 k x0 (wrap64 (x3 + 1))) else (some false))) else (none)) else (some (decide ((x0.size : Int) ≤ 400)))
def spec_l01Bits.f (k : Nat) (a0 : ByteArray) : Option (Bool) := spec_l01Bits.l0 k a0 0
theorem spec_l01Bits.mono_l : ∀ k, (∀ y0 y1, LeO (spec_l01Bits.l0 k y0 y1) (spec_l01Bits.l0 (k + 1) y0 y1))
  | 0 => fun _ _ r h => by simp [spec_l01Bits.l0] at h
  | k + 1 => by
    have ih0 := spec_l01Bits.mono_l k
    · intro y0 y1
      unfold spec_l01Bits.l0
      repeat' first
      | (with_reducible exact ih0 _ _)
      | (with_reducible exact LeO.refl _)
      | (with_reducible exact LeO.none _)
      | (with_reducible refine LeO.ite ?_ ?_)
      | (with_reducible refine LeO.bind ?_ (fun _ => ?_))
      | exact ih0 _ _
      | exact LeO.none _
      | refine LeO.ite ?_ ?_
      | refine LeO.bind ?_ (fun _ => ?_)
theorem spec_l01Bits.mono : ∀ a0 k, LeO (spec_l01Bits.f k a0) (spec_l01Bits.f (k + 1) a0) := by
  intro a0 k
  have ih0 := spec_l01Bits.mono_l k
  unfold spec_l01Bits.f
  repeat' first
      | (with_reducible exact ih0 _ _)
      | (with_reducible exact LeO.refl _)
      | (with_reducible exact LeO.none _)
      | (with_reducible refine LeO.ite ?_ ?_)
      | (with_reducible refine LeO.bind ?_ (fun _ => ?_))
      | exact ih0 _ _
      | exact LeO.none _
      | refine LeO.ite ?_ ?_
      | refine LeO.bind ?_ (fun _ => ?_)
set_option maxHeartbeats 8000000 in
set_option maxRecDepth 100000 in
theorem spec_l01Bits.calls (k : Nat) (a0 : ByteArray) (r : Bool) (w : World) (h : spec_l01Bits.f k a0 = some r) :
    Calls Tryd.prog 55 #[.string a0] w fun e w' => e = .returned (.bool r) ∧ Drawn0 w w' := by
  have H : (spec_l01Bits.l0 k a0 0) = some r := h
  clear h
  have H' := Aside0.mk H
  clear H
  go_enter Tryd.func55, Tryd.ntmps55
  go_wp2
  go_loopg [3] k (fun kq v3 w' => ∃ (x3_1 : Int), v3 = .int .i64 x3_1 ∧ Aside0 (spec_l01Bits.l0 kq a0 x3_1 = some r) ∧ Aside0 (kq ≤ k) ∧ Drawn0 w w')
  case atStart => exact ⟨(0), (by first | rfl | (simp; done) | (simp [*]; done)), H', ⟨Nat.le_refl _⟩, by repeat (first | exact Drawn0.refl _ | apply Drawn0.step)⟩
  case round =>
    clear H'
    obtain ⟨x3_1, rfl, HA, HK1, ⟨m1, rfl⟩⟩ := hrel
    cases gk with
    | zero => exact absurd HA.out (by simp [spec_l01Bits.l0])
    | succ k1 =>
      have H := HA.out
      clear HA
      simp only [spec_l01Bits.l0] at H
      by_cases c2 : x3_1 < (a0.size : Int)
      · rw [if_pos c2] at H
        have c2b0 : decide (x3_1 < (a0.size : Int)) = true := decide_eq_true c2
        clear c2
        by_cases c3 : 0 ≤ x3_1
        · rw [if_pos c3] at H
          have c3b0 : decide (0 ≤ x3_1) = true := decide_eq_true c3
          clear c3
          by_cases c5 : (bt a0 x3_1) = 48
          · rw [if_pos c5] at H
            have c5b0 : ((bt a0 x3_1) == 48) = true := beq_iff_eq.mpr c5
            have c5b1 : ((bt a0 x3_1) != 48) = false := bne_eq_false_iff_eq.mpr c5
            clear c5
            have H' := Aside0.mk H
            clear H
            have p4 : 0 ≤ (x3_1 : Int) := of_decide_eq_true (by first | (with_reducible assumption) | assumption)
            have q4 : x3_1 < (a0.size : Int) := of_decide_eq_true (by first | (with_reducible assumption) | assumption)
            have hx4 := bt_at a0 x3_1
            replace p4 := eq_true p4
            replace q4 := eq_true q4
            go_wp2
            go_roundg k1
            case measure => have := HK1.out; omega
            case rel => exact ⟨(wrap64 (x3_1 + 1)), (by first | rfl | (simp; done) | (simp [*]; done)), H', ⟨by have := HK1.out; omega⟩, by repeat (first | exact Drawn0.refl _ | apply Drawn0.step)⟩
          · rw [if_neg c5] at H
            have c5b0 : ((bt a0 x3_1) == 48) = false := beq_eq_false_iff_ne.mpr c5
            have c5b1 : ((bt a0 x3_1) != 48) = true := bne_iff_ne.mpr c5
            by_cases c7 : (bt a0 x3_1) = 49
            · rw [if_pos c7] at H
              have c7b0 : ((bt a0 x3_1) == 49) = true := beq_iff_eq.mpr c7
              have c7b1 : ((bt a0 x3_1) != 49) = false := bne_eq_false_iff_eq.mpr c7
              clear c7
              have H' := Aside0.mk H
              clear H
              have p4 : 0 ≤ (x3_1 : Int) := of_decide_eq_true (by first | (with_reducible assumption) | assumption)
              have q4 : x3_1 < (a0.size : Int) := of_decide_eq_true (by first | (with_reducible assumption) | assumption)
              have hx4 := bt_at a0 x3_1
              replace p4 := eq_true p4
              replace q4 := eq_true q4
              have p6 : 0 ≤ (x3_1 : Int) := of_decide_eq_true (by first | (with_reducible assumption) | assumption)
              have q6 : x3_1 < (a0.size : Int) := of_decide_eq_true (by first | (with_reducible assumption) | assumption)
              have hx6 := bt_at a0 x3_1
              replace p6 := eq_true p6
              replace q6 := eq_true q6
              go_wp2
              go_roundg k1
              case measure => have := HK1.out; omega
              case rel => exact ⟨(wrap64 (x3_1 + 1)), (by first | rfl | (simp; done) | (simp [*]; done)), H', ⟨by have := HK1.out; omega⟩, by repeat (first | exact Drawn0.refl _ | apply Drawn0.step)⟩
            · rw [if_neg c7] at H
              have c7b0 : ((bt a0 x3_1) == 49) = false := beq_eq_false_iff_ne.mpr c7
              have c7b1 : ((bt a0 x3_1) != 49) = true := bne_iff_ne.mpr c7
              obtain rfl := Option.some.inj H
              have p4 : 0 ≤ (x3_1 : Int) := of_decide_eq_true (by first | (with_reducible assumption) | assumption)
              have q4 : x3_1 < (a0.size : Int) := of_decide_eq_true (by first | (with_reducible assumption) | assumption)
              have hx4 := bt_at a0 x3_1
              replace p4 := eq_true p4
              replace q4 := eq_true q4
              have p6 : 0 ≤ (x3_1 : Int) := of_decide_eq_true (by first | (with_reducible assumption) | assumption)
              have q6 : x3_1 < (a0.size : Int) := of_decide_eq_true (by first | (with_reducible assumption) | assumption)
              have hx6 := bt_at a0 x3_1
              replace p6 := eq_true p6
              replace q6 := eq_true q6
              go_wp2
              go_ret
              exact ⟨by first | rfl | (simp; done) | (simp [*]; done), by repeat (first | exact Drawn0.refl _ | apply Drawn0.step)⟩
        · rw [if_neg c3] at H
          exact absurd H (by simp)
      · rw [if_neg c2] at H
        have c2b0 : decide (x3_1 < (a0.size : Int)) = false := decide_eq_false c2
        clear c2
        obtain rfl := Option.some.inj H
        go_wp2
        go_ret
        exact ⟨by first | rfl | (simp; done) | (simp [*]; done), by repeat (first | exact Drawn0.refl _ | apply Drawn0.step)⟩
theorem spec_l01Bits.l0_any (s : ByteArray) (hs : s.size ≤ 9223372036854775806) : ∀ (d i : Nat), i + d = s.size → Ev (fun k => spec_l01Bits.l0 k s (i : Int)) (((by_ s).drop i).all (fun c => c == 48 || c == 49) && decide (s.size ≤ 400))
  | 0, i, hi => by
    refine Ev.step (f := fun _ => some _) (fun k => ?_) (Ev.now _)
    simp only [spec_l01Bits.l0]
    rw [if_neg (by omega), List.drop_eq_nil_of_le (by rw [by_length]; omega)]
    simp
    omega
  | d + 1, i, hi => by
    have hlt : i < (by_ s).length := by rw [by_length]; omega
    rw [drop_at _ i hlt, List.all_cons]
    by_cases h1 : (by_ s)[i] = 48
    · refine Ev.step (f := fun k => spec_l01Bits.l0 k s ((i + 1 : Nat) : Int)) (fun k => ?_) ?_
      · simp only [spec_l01Bits.l0]
        rw [if_pos (by omega), if_pos (by omega), bt_nat s i hlt, h1, if_pos (by rfl), wrap64_id (x := (i : Int) + 1) (by omega) (by omega)]
        rfl
      · rw [h1]
        exact spec_l01Bits.l0_any s hs d (i + 1) (by omega)
    · have n1 : ¬ ((by_ s)[i].toNat : Int) = 48 := fun h => h1 (UInt8.toNat_inj.mp (by have : (48 : UInt8).toNat = 48 := rfl; omega))
      by_cases h2 : (by_ s)[i] = 49
      · refine Ev.step (f := fun k => spec_l01Bits.l0 k s ((i + 1 : Nat) : Int)) (fun k => ?_) ?_
        · simp only [spec_l01Bits.l0]
          rw [if_pos (by omega), if_pos (by omega), bt_nat s i hlt, if_neg n1, h2, if_pos (by rfl), wrap64_id (x := (i : Int) + 1) (by omega) (by omega)]
          rfl
        · rw [h2]
          exact spec_l01Bits.l0_any s hs d (i + 1) (by omega)
      · have n2 : ¬ ((by_ s)[i].toNat : Int) = 49 := fun h => h2 (UInt8.toNat_inj.mp (by have : (49 : UInt8).toNat = 49 := rfl; omega))
        refine Ev.step (f := fun _ => some _) (fun k => ?_) (Ev.now _)
        simp only [spec_l01Bits.l0]
        rw [if_pos (by omega), if_pos (by omega), bt_nat s i hlt, if_neg n1, if_neg n2]
        have e1 : ((by_ s)[i] == 48) = false := by simpa using h1
        have e2 : ((by_ s)[i] == 49) = false := by simpa using h2
        rw [e1, e2]
        rfl
theorem spec_l01Bits.any (s : ByteArray) (hs : s.size ≤ 9223372036854775806) : Ev (fun k => spec_l01Bits.f k s) (bits400 s) := spec_l01Bits.l0_any s hs s.size 0 (by omega)

end Go.Proofs.YtbbchbmoaahidaaDoor.G
