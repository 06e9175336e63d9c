-- written by this claim's own program out of the translation
import Derived.Test.YtbbchbmoaahidaaDoorG0
namespace Go.Proofs.YtbbchbmoaahidaaDoor.G
open Go.RowKit Go.Proofs.YtbbchbmoaahidaaDoorW.PrintWords Go.Proofs.YtbbchbmoaahidaaDoorW.PrintLast Go.Proofs.YtbbchbmoaahidaaDoorW.PrintMore
attribute [local go_sem] max2_int min2_int max_two min_two max_three min_three max_four min_four   -- for this text's walks alone
set_option linter.unusedVariables false
set_option linter.unusedSimpArgs false

/-! ### spec_l01Check: function 46 -/
def spec_l01Check.l0 : Nat → Int → ByteArray → Int → Option (Int)
  | 0, _, _, _ => none
  | k + 1, x0, x1, x5 => if x5 < (x1.size : Int) then (if 0 ≤ x5 then (spec_l01Check.l0 k (Int.tmod (wrap64 ((wrap64 ((wrap64 (3001 * x0)) + (wrap64 (bt x1 x5)))) + 5)) 65003) x1 (wrap64 (x5 + 1))) else (none)) else (some x0)
def spec_l01Check.f (k : Nat) (a0 : Int) (a1 : ByteArray) : Option (Int) := spec_l01Check.l0 k a0 a1 0
theorem spec_l01Check.mono_l : ∀ k, (∀ y0 y1 y2, LeO (spec_l01Check.l0 k y0 y1 y2) (spec_l01Check.l0 (k + 1) y0 y1 y2))
  | 0 => fun _ _ _ r h => by simp [spec_l01Check.l0] at h
  | k + 1 => by
    have ih0 := spec_l01Check.mono_l k
    · intro y0 y1 y2
      unfold spec_l01Check.l0
      repeat' first
      | (with_reducible exact ih0 _ _ _)
      | (with_reducible exact LeO.refl _)
      | (with_reducible exact LeO.none _)
      | (with_reducible refine LeO.ite ?_ ?_)
      | (with_reducible refine LeO.bind ?_ (fun _ => ?_))
      | exact ih0 _ _ _
      | exact LeO.none _
      | refine LeO.ite ?_ ?_
      | refine LeO.bind ?_ (fun _ => ?_)
theorem spec_l01Check.mono : ∀ a0 a1 k, LeO (spec_l01Check.f k a0 a1) (spec_l01Check.f (k + 1) a0 a1) := by
  intro a0 a1 k
  have ih0 := spec_l01Check.mono_l k
  unfold spec_l01Check.f
  repeat' first
      | (with_reducible exact ih0 _ _ _)
      | (with_reducible exact LeO.refl _)
      | (with_reducible exact LeO.none _)
      | (with_reducible refine LeO.ite ?_ ?_)
      | (with_reducible refine LeO.bind ?_ (fun _ => ?_))
      | exact ih0 _ _ _
      | exact LeO.none _
      | refine LeO.ite ?_ ?_
      | refine LeO.bind ?_ (fun _ => ?_)
set_option maxHeartbeats 8000000 in
set_option maxRecDepth 100000 in
theorem spec_l01Check.calls (k : Nat) (a0 : Int) (a1 : ByteArray) (r : Int) (w : World) (h : spec_l01Check.f k a0 a1 = some r) :
    Calls Tryd.prog 46 #[.int .i64 a0, .string a1] w fun e w' => e = .returned (.int .i64 r) ∧ Drawn0 w w' := by
  have H : (spec_l01Check.l0 k a0 a1 0) = some r := h
  clear h
  have H' := Aside0.mk H
  clear H
  go_enter Tryd.func46, Tryd.ntmps46
  go_wp2
  go_loopg [0, 5] k (fun kq v0 v5 w' => ∃ (x0_1 : Int) (x5_1 : Int), v0 = .int .i64 x0_1 ∧ v5 = .int .i64 x5_1 ∧ Aside0 (spec_l01Check.l0 kq x0_1 a1 x5_1 = some r) ∧ Aside0 (kq ≤ k) ∧ Drawn0 w w')
  case atStart => exact ⟨(a0), (0), (by first | rfl | (simp; done) | (simp [*]; done)), (by first | rfl | (simp; done) | (simp [*]; done)), H', ⟨Nat.le_refl _⟩, by repeat (first | exact Drawn0.refl _ | apply Drawn0.step)⟩
  case round =>
    clear H'
    try clear p2
    obtain ⟨x0_1, x5_1, rfl, rfl, HA, HK1, ⟨m1, rfl⟩⟩ := hrel
    cases gk with
    | zero => exact absurd HA.out (by simp [spec_l01Check.l0])
    | succ k1 =>
      have H := HA.out
      clear HA
      simp only [spec_l01Check.l0] at H
      by_cases c3 : x5_1 < (a1.size : Int)
      · rw [if_pos c3] at H
        have c3b0 : decide (x5_1 < (a1.size : Int)) = true := decide_eq_true c3
        clear c3
        by_cases c4 : 0 ≤ x5_1
        · rw [if_pos c4] at H
          have c4b0 : decide (0 ≤ x5_1) = true := decide_eq_true c4
          clear c4
          have H' := Aside0.mk H
          clear H
          have p5 : 0 ≤ (x5_1 : Int) := of_decide_eq_true (by first | (with_reducible assumption) | assumption)
          have q5 : x5_1 < (a1.size : Int) := of_decide_eq_true (by first | (with_reducible assumption) | assumption)
          have hx5 := bt_at a1 x5_1
          replace p5 := eq_true p5
          replace q5 := eq_true q5
          go_wp2
          go_roundg k1
          case measure => have := HK1.out; omega
          case rel => exact ⟨(Int.tmod (wrap64 ((wrap64 ((wrap64 (3001 * x0_1)) + (wrap64 (bt a1 x5_1)))) + 5)) 65003), (wrap64 (x5_1 + 1)), (by first | rfl | (simp; done) | (simp [*]; done)), (by first | rfl | (simp; done) | (simp [*]; done)), H', ⟨by have := HK1.out; omega⟩, by repeat (first | exact Drawn0.refl _ | apply Drawn0.step)⟩
        · rw [if_neg c4] at H
          exact absurd H (by simp)
      · rw [if_neg c3] at H
        have c3b0 : decide (x5_1 < (a1.size : Int)) = false := decide_eq_false c3
        clear c3
        obtain rfl := Option.some.inj H
        go_wp2
        go_ret
        exact ⟨by first | rfl | (simp; done) | (simp [*]; done), by repeat (first | exact Drawn0.refl _ | apply Drawn0.step)⟩
theorem spec_l01Check.l0_any (s : ByteArray) (hs : s.size ≤ 9223372036854775806) : ∀ (d i : Nat) (n : Int), i + d = s.size → 0 ≤ n → n ≤ 65002 → Ev (fun k => spec_l01Check.l0 k n s (i : Int)) (chk n ((by_ s).drop i))
  | 0, i, n, hi, _, _ => by
    refine Ev.step (f := fun _ => some (chk n ((by_ s).drop i))) (fun k => ?_) (Ev.now _)
    simp only [spec_l01Check.l0]
    rw [if_neg (by omega), List.drop_eq_nil_of_le (by rw [by_length]; omega)]
    rfl
  | d + 1, i, n, hi, h0, h1 => by
    have hlt : i < (by_ s).length := by rw [by_length]; omega
    have hc : ((by_ s)[i].toNat : Int) ≤ 255 := by have := ((by_ s)[i]).toNat_lt; omega
    have e : Int.tmod (wrap64 ((wrap64 ((wrap64 (3001 * n)) + (wrap64 (((by_ s)[i].toNat : Int))))) + 5)) 65003 = chk1 n (by_ s)[i] := by
      rw [wrap64_id (x := 3001 * n) (by omega) (by omega), wrap64_id (x := ((by_ s)[i].toNat : Int)) (by omega) (by omega), wrap64_id (x := 3001 * n + ((by_ s)[i].toNat : Int)) (by omega) (by omega), wrap64_id (x := 3001 * n + ((by_ s)[i].toNat : Int) + 5) (by omega) (by omega)]
      unfold chk1
      exact Int.tmod_eq_emod_of_nonneg (by omega)
    have r := chk1_range n (by_ s)[i]
    refine Ev.step (f := fun k => spec_l01Check.l0 k (chk1 n (by_ s)[i]) s ((i + 1 : Nat) : Int)) (fun k => ?_) ?_
    · simp only [spec_l01Check.l0]
      rw [if_pos (by omega), if_pos (by omega), bt_nat s i hlt, e, wrap64_id (x := (i : Int) + 1) (by omega) (by omega)]
      rfl
    · rw [drop_at _ i hlt]
      exact spec_l01Check.l0_any s hs d (i + 1) (chk1 n (by_ s)[i]) (by omega) r.1 r.2
theorem spec_l01Check.any (s : ByteArray) (n : Int) (hs : s.size ≤ 9223372036854775806) (h0 : 0 ≤ n) (h1 : n ≤ 65002) : Ev (fun k => spec_l01Check.f k n s) (chk n (by_ s)) := by
  have := spec_l01Check.l0_any s hs s.size 0 n (by omega) h0 h1
  exact this

end Go.Proofs.YtbbchbmoaahidaaDoor.G
