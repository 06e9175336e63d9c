-- written by this claim's own program out of the translation
import Derived.Test.YtbbchbmoaahidaaDoorG0
import Derived.Test.YtbbchbmoaahidaaDoorGSpecL01Bits
import Derived.Test.YtbbchbmoaahidaaDoorGSpecL00In
import Derived.Test.YtbbchbmoaahidaaDoorGSpecL09Many
namespace Go.Proofs.YtbbchbmoaahidaaDoor.G
open Go.RowKit Go.Proofs.YtbbchbmoaahidaaDoorW.PrintWords Go.Proofs.YtbbchbmoaahidaaDoorW.PrintLast Go.Proofs.YtbbchbmoaahidaaDoorW.PrintMore
attribute [local go_sem] max2_int min2_int max_two min_two max_three min_three max_four min_four   -- for this text's walks alone
set_option linter.unusedVariables false
set_option linter.unusedSimpArgs false

/-! ### spec_l09Coins: function 41 -/
def spec_l09Coins.l0 : Nat → List ByteArray → Int → Option (Bool)
  | 0, _, _ => none
  | k + 1, x0, x3 => if x3 < (x0.length : Int) then (if 0 ≤ x3 then (if ((rdOf ByteArray.empty x0 x3).size : Int) > 40 then (some false) else ((spec_l01Bits.f k (rdOf ByteArray.empty x0 x3)).bind fun t200 => (if t200 = true then (spec_l09Coins.l0 k x0 (wrap64 (x3 + 1))) else (some false)))) else (none)) else ((spec_l09Many.f (x0.length : Int)).bind fun t201 => (some t201))
def spec_l09Coins.f (k : Nat) (l0 : List ByteArray) : Option (Bool) := spec_l09Coins.l0 k l0 0
theorem spec_l09Coins.mono_l : ∀ k, (∀ y0 y1, LeO (spec_l09Coins.l0 k y0 y1) (spec_l09Coins.l0 (k + 1) y0 y1))
  | 0 => fun _ _ r h => by simp [spec_l09Coins.l0] at h
  | k + 1 => by
    have ih0 := spec_l09Coins.mono_l k
    · intro y0 y1
      unfold spec_l09Coins.l0
      repeat' first
      | (with_reducible exact ih0 _ _)
      | (with_reducible exact spec_l01Bits.mono _ _)
      | (with_reducible exact LeO.refl _)
      | (with_reducible exact LeO.none _)
      | (with_reducible refine LeO.ite ?_ ?_)
      | (with_reducible refine LeO.bind ?_ (fun _ => ?_))
      | exact ih0 _ _
      | exact spec_l01Bits.mono _ _
      | exact LeO.none _
      | refine LeO.ite ?_ ?_
      | refine LeO.bind ?_ (fun _ => ?_)
theorem spec_l09Coins.mono : ∀ a0 k, LeO (spec_l09Coins.f k a0) (spec_l09Coins.f (k + 1) a0) := by
  intro a0 k
  have ih0 := spec_l09Coins.mono_l k
  unfold spec_l09Coins.f
  repeat' first
      | (with_reducible exact ih0 _ _)
      | (with_reducible exact spec_l01Bits.mono _ _)
      | (with_reducible exact LeO.refl _)
      | (with_reducible exact LeO.none _)
      | (with_reducible refine LeO.ite ?_ ?_)
      | (with_reducible refine LeO.bind ?_ (fun _ => ?_))
      | exact ih0 _ _
      | exact spec_l01Bits.mono _ _
      | exact LeO.none _
      | refine LeO.ite ?_ ?_
      | refine LeO.bind ?_ (fun _ => ?_)
set_option maxHeartbeats 8000000 in
set_option maxRecDepth 100000 in
theorem spec_l09Coins.calls (k : Nat) (A0 : Option Addr) (c0 : Nat) (l0 : List ByteArray) (r : Bool) (w : World) (hr0 : Kd.C Kd.string w A0 l0.length l0) (hc0 : l0.length ≤ c0) (h : spec_l09Coins.f k l0 = some r) :
    Calls Tryd.prog 41 #[.slice A0 l0.length c0] w fun e w' => e = .returned (.bool r) ∧ Drawn0 w w' := by
  have HR0 := Aside0.mk hr0
  have HC0 := Aside0.mk hc0
  clear hr0 hc0
  have H : (spec_l09Coins.l0 k l0 0) = some r := h
  clear h
  have H' := Aside0.mk H
  clear H
  go_enter Tryd.func41, Tryd.ntmps41
  go_wp2
  go_loopg [3] k (fun kq v3 w' => ∃ (x3_1 : Int), v3 = .int .i64 x3_1 ∧ Aside0 (spec_l09Coins.l0 kq l0 x3_1 = some r) ∧ Aside0 (kq ≤ k) ∧ Drawn0 w w')
  case atStart => exact ⟨(0), (by first | rfl | (simp; done) | (simp [*]; done)), H', ⟨Nat.le_refl _⟩, by repeat (first | exact Drawn0.refl _ | apply Drawn0.step)⟩
  case round =>
    clear H'
    obtain ⟨x3_1, rfl, HA, HK1, ⟨m1, rfl⟩⟩ := hrel
    cases gk with
    | zero => exact absurd HA.out (by simp [spec_l09Coins.l0])
    | succ k1 =>
      have H := HA.out
      clear HA
      simp only [spec_l09Coins.l0] at H
      by_cases c2 : x3_1 < (l0.length : Int)
      · rw [if_pos c2] at H
        have c2b0 : decide (x3_1 < (l0.length : Int)) = true := decide_eq_true c2
        clear c2
        by_cases c3 : 0 ≤ x3_1
        · rw [if_pos c3] at H
          have c3b0 : decide (0 ≤ x3_1) = true := decide_eq_true c3
          clear c3
          by_cases c4 : ((rdOf ByteArray.empty l0 x3_1).size : Int) > 40
          · rw [if_pos c4] at H
            have c4b0 : decide (40 < ((rdOf ByteArray.empty l0 x3_1).size : Int)) = true := decide_eq_true c4
            have c4b1 : decide (40 < (rdOf ByteArray.empty l0 x3_1).size) = true := decide_eq_true (by omega)
            clear c4
            obtain rfl := Option.some.inj H
            have p198 : 0 ≤ (x3_1 : Int) := of_decide_eq_true (by first | (with_reducible assumption) | assumption)
            have q198 : x3_1 < (l0.length : Int) := of_decide_eq_true (by first | (with_reducible assumption) | assumption)
            obtain ⟨ad198, e198, hx198_0⟩ := Kd.at_string HR0.out x3_1 p198 q198
            cases e198
            replace p198 := eq_true p198
            replace q198 := eq_true q198
            go_wp2
            go_ret
            exact ⟨by first | rfl | (simp; done) | (simp [*]; done), by repeat (first | exact Drawn0.refl _ | apply Drawn0.step)⟩
          · rw [if_neg c4] at H
            have c4b0 : decide (40 < ((rdOf ByteArray.empty l0 x3_1).size : Int)) = false := decide_eq_false c4
            have c4b1 : decide (40 < (rdOf ByteArray.empty l0 x3_1).size) = false := decide_eq_false (by omega)
            clear c4
            replace H := Option.bind_eq_some_iff.mp H
            obtain ⟨t200, A50, H⟩ := H
            replace H : (if t200 = true then (spec_l09Coins.l0 k1 l0 (wrap64 (x3_1 + 1))) else (some false)) = some r := H
            have A5 := Aside0.mk A50
            clear A50
            by_cases c6 : t200 = true
            · subst c6
              have H1 : (spec_l09Coins.l0 k1 l0 (wrap64 (x3_1 + 1))) = some r := by rw [if_pos rfl] at H; exact H
              clear H
              have H := H1
              clear H1
              have H' := Aside0.mk H
              clear H
              have p198 : 0 ≤ (x3_1 : Int) := of_decide_eq_true (by first | (with_reducible assumption) | assumption)
              have q198 : x3_1 < (l0.length : Int) := of_decide_eq_true (by first | (with_reducible assumption) | assumption)
              obtain ⟨ad198, e198, hx198_0⟩ := Kd.at_string HR0.out x3_1 p198 q198
              cases e198
              replace p198 := eq_true p198
              replace q198 := eq_true q198
              have p199 : 0 ≤ (x3_1 : Int) := of_decide_eq_true (by first | (with_reducible assumption) | assumption)
              have q199 : x3_1 < (l0.length : Int) := of_decide_eq_true (by first | (with_reducible assumption) | assumption)
              obtain ⟨ad199, e199, hx199_0⟩ := Kd.at_string HR0.out x3_1 p199 q199
              obtain rfl : ad198 = ad199 := (by injection e199)
              replace p199 := eq_true p199
              replace q199 := eq_true q199
              go_wp2_with (first | (go_at_call 55; (with_reducible refine (spec_l01Bits.calls k1 (rdOf ByteArray.empty l0 x3_1) true _ A5.out).mono ?_); rintro e w' ⟨rfl, ⟨nd, rfl⟩⟩))
              go_roundg k1
              case measure => have := HK1.out; omega
              case rel => exact ⟨(wrap64 (x3_1 + 1)), (by first | rfl | (simp; done) | (simp [*]; done)), H', ⟨by have := HK1.out; omega⟩, by repeat (first | exact Drawn0.refl _ | apply Drawn0.step)⟩
            · replace c6 := Bool.eq_false_iff.mpr c6
              subst c6
              have H1 : (some false) = some r := by rw [if_neg (show ¬ (false = true) by decide)] at H; exact H
              clear H
              have H := H1
              clear H1
              obtain rfl := Option.some.inj H
              have p198 : 0 ≤ (x3_1 : Int) := of_decide_eq_true (by first | (with_reducible assumption) | assumption)
              have q198 : x3_1 < (l0.length : Int) := of_decide_eq_true (by first | (with_reducible assumption) | assumption)
              obtain ⟨ad198, e198, hx198_0⟩ := Kd.at_string HR0.out x3_1 p198 q198
              cases e198
              replace p198 := eq_true p198
              replace q198 := eq_true q198
              have p199 : 0 ≤ (x3_1 : Int) := of_decide_eq_true (by first | (with_reducible assumption) | assumption)
              have q199 : x3_1 < (l0.length : Int) := of_decide_eq_true (by first | (with_reducible assumption) | assumption)
              obtain ⟨ad199, e199, hx199_0⟩ := Kd.at_string HR0.out x3_1 p199 q199
              obtain rfl : ad198 = ad199 := (by injection e199)
              replace p199 := eq_true p199
              replace q199 := eq_true q199
              go_wp2_with (first | (go_at_call 55; (with_reducible refine (spec_l01Bits.calls k1 (rdOf ByteArray.empty l0 x3_1) false _ A5.out).mono ?_); rintro e w' ⟨rfl, ⟨nd, rfl⟩⟩))
              go_ret
              exact ⟨by first | rfl | (simp; done) | (simp [*]; done), by repeat (first | exact Drawn0.refl _ | apply Drawn0.step)⟩
        · rw [if_neg c3] at H
          exact absurd H (by simp)
      · rw [if_neg c2] at H
        have c2b0 : decide (x3_1 < (l0.length : Int)) = false := decide_eq_false c2
        clear c2
        replace H := Option.bind_eq_some_iff.mp H
        obtain ⟨t201, A70, H⟩ := H
        replace H : (some t201) = some r := H
        have A7 := Aside0.mk A70
        clear A70
        obtain rfl := Option.some.inj H
        go_wp2_with (first | ((with_reducible refine gate_callee (f := 60) rfl ?_); refine goesL_ (some 26) rfl rfl Tryd.func60 (by kernel_rfl) rfl #[.int .i64 (l0.length : Int)] rfl (by (try simp only [List.map_toArray, List.map_cons, List.map_nil]); first | done | rfl | (simp only [List.length_drop, List.length_take]; rfl)) ?_; (with_reducible refine (spec_l09Many.calls (l0.length : Int) t201 _ A7.out).mono ?_); rintro e w' ⟨rfl, ⟨nd, rfl⟩⟩; refine ⟨_, rfl, ?_⟩))
        go_ret
        exact ⟨by first | rfl | (simp; done) | (simp [*]; done), by repeat (first | exact Drawn0.refl _ | apply Drawn0.step)⟩
theorem spec_l09Coins.l0_any (l0 : List ByteArray) (hl : l0.length ≤ 140737488351232) (hs : ∀ s ∈ l0, s.size ≤ 9223372036854775806) : ∀ (d i : Nat), i + d = l0.length →
    Ev (fun k => spec_l09Coins.l0 k l0 (i : Int)) ((decide (1 ≤ l0.length) && decide (l0.length ≤ 12)) && (l0.drop i).all fun c => bitsB c && decide (c.size ≤ 40))
  | 0, i, hi => by
    refine Ev.step (f := fun _ => some _) (fun k => ?_) (Ev.now _)
    simp only [spec_l09Coins.l0, spec_l09Many.f, spec_l00In.f]
    rw [if_neg (by omega), List.drop_eq_nil_of_le (by omega)]
    by_cases h1 : 1 ≤ l0.length
    · rw [if_pos (by omega)]
      simp only [Option.bind_some, List.all_nil, Bool.and_true, decide_eq_true h1, Bool.true_and]
      congr 1
      by_cases h2 : l0.length ≤ 12
      · rw [decide_eq_true h2, decide_eq_true (by omega)]
      · rw [decide_eq_false h2, decide_eq_false (by omega)]
    · rw [if_neg (by omega), decide_eq_false h1]
      rfl
  | d + 1, i, hi => by
    have hlt : i < l0.length := by omega
    have hz := hs _ (List.getElem_mem hlt)
    rw [drop_at _ i hlt, List.all_cons]
    by_cases h1 : l0[i].size ≤ 40
    · have hb : bits400 l0[i] = bitsB l0[i] := by unfold bits400; rw [decide_eq_true (by omega), Bool.and_true]
      by_cases h2 : bitsB l0[i] = true
      · refine Ev.step (f := fun k => (spec_l01Bits.f k l0[i]).bind fun t200 => (if t200 = true then (spec_l09Coins.l0 k l0 ((i + 1 : Nat) : Int)) else (some false))) (fun k => ?_) ?_
        · simp only [spec_l09Coins.l0]
          rw [if_pos (by omega), if_pos (by omega), rdOf_at _ _ _ hlt, if_neg (by omega), wrap64_id (x := (i : Int) + 1) (by omega) (by omega)]
          rfl
        · refine Ev.bind (spec_l01Bits.any _ hz) (Ev.congr (fun k => if_pos (by rw [hb, h2])) ?_)
          rw [h2, decide_eq_true h1]
          exact spec_l09Coins.l0_any l0 hl hs d (i + 1) (by omega)
      · refine Ev.step (f := fun k => (spec_l01Bits.f k l0[i]).bind fun t200 => (if t200 = true then (spec_l09Coins.l0 k l0 ((i + 1 : Nat) : Int)) else (some false))) (fun k => ?_) ?_
        · simp only [spec_l09Coins.l0]
          rw [if_pos (by omega), if_pos (by omega), rdOf_at _ _ _ hlt, if_neg (by omega), wrap64_id (x := (i : Int) + 1) (by omega) (by omega)]
          rfl
        · refine Ev.bind (spec_l01Bits.any _ hz) (Ev.congr (fun k => if_neg (by rw [hb]; exact h2)) ?_)
          have e : bitsB l0[i] = false := by simpa using h2
          rw [e]
          simp only [Bool.false_and, Bool.and_false]
          exact Ev.now _
    · refine Ev.step (f := fun _ => some _) (fun k => ?_) (Ev.now _)
      simp only [spec_l09Coins.l0]
      rw [if_pos (by omega), if_pos (by omega), rdOf_at _ _ _ hlt, if_pos (by omega), decide_eq_false h1]
      simp only [Bool.and_false, Bool.false_and]
theorem spec_l09Coins.any (l0 : List ByteArray) (hl : l0.length ≤ 140737488351232) (hs : ∀ s ∈ l0, s.size ≤ 9223372036854775806) : Ev (fun k => spec_l09Coins.f k l0) (areCoins l0) := spec_l09Coins.l0_any l0 hl hs l0.length 0 (by omega)

end Go.Proofs.YtbbchbmoaahidaaDoor.G
