/- Plain words of this claim: splitting sets of stations by coins. -/
import Derived.Test.YtbbchbmoaahidaaDoorPlain2
set_option linter.unusedVariables false
namespace Go.Proofs.YtbbchbmoaahidaaDoor
open Go.RowKit Go.Proofs.YtbbchbmoaahidaaDoorW.PrintWords
/-- One set split by the coins that come next; none if a station has none left. -/
def spin (coins : List ByteArray) : List Int → List Int → List Int → List Int → Option (List Int × List Int × List Int)
  | [], tk, o, z => some (tk, o, z)
  | i :: s, tk, o, z =>
    if rd tk i = ((rdOf ByteArray.empty coins i).size : Int) then none
    else if bt (rdOf ByteArray.empty coins i) (rd tk i) = 49 then spin coins s (tk.set i.toNat (rd tk i + 1)) (o ++ [i]) z
    else spin coins s (tk.set i.toNat (rd tk i + 1)) o (z ++ [i])
/-- The rounds: the stack's top stands first. -/
def srun (coins : List ByteArray) : Nat → List Int → List (List Int) → List Int → List Int → Option (List Int × List Int)
  | 0, _, _, _, _ => none
  | f + 1, _, [], sl, od => some (sl, od)
  | f + 1, tk, set :: st, sl, od =>
    if sl.length = 300 then none
    else if set.length < 2 then srun coins f tk st (sl ++ [(set.length : Int)]) (if set.length = 1 then od ++ [rd set 0] else od)
    else match spin coins set tk [] [] with
      | none => none
      | some (tk', o, z) => srun coins f tk' (z :: o :: st) (sl ++ [(set.length : Int)]) od
def areCoins (coins : List ByteArray) : Bool := decide (1 ≤ coins.length) && decide (coins.length ≤ 12) && coins.all fun c => bitsB c && decide (c.size ≤ 40)
def fin : Option (List Int × List Int) → List Int × List Int × Bool
  | some (a, b) => (a, b, true)
  | none => ([], [], false)
def splitOf (coins : List ByteArray) : List Int × List Int × Bool :=
  if areCoins coins = true then fin (srun coins 302 (List.replicate coins.length 0) [(List.range coins.length).map fun i : Nat => (i : Int)] [] []) else ([], [], false)
/-- What holds of the numbers of coins taken. -/
def okTk (coins : List ByteArray) (tk : List Int) : Prop := tk.length = coins.length ∧ ∀ i : Int, 0 ≤ i → i < coins.length → 0 ≤ rd tk i ∧ rd tk i ≤ ((rdOf ByteArray.empty coins i).size : Int)
def okSet (coins : List ByteArray) (s : List Int) : Prop := s.length ≤ 12 ∧ ∀ x ∈ s, 0 ≤ x ∧ x < (coins.length : Int)
theorem okTk_set {coins : List ByteArray} {tk : List Int} {x : Int} (h : okTk coins tk) (h0 : 0 ≤ x) (h1 : x < coins.length) (hne : ¬ rd tk x = ((rdOf ByteArray.empty coins x).size : Int)) : okTk coins (tk.set x.toNat (rd tk x + 1)) := by
  refine ⟨by rw [List.length_set]; exact h.1, fun i i0 i1 => ?_⟩
  obtain ⟨a, b⟩ := h.2 i i0 i1
  obtain ⟨a', b'⟩ := h.2 x h0 h1
  by_cases e : i = x
  · subst e
    have : rd (tk.set i.toNat (rd tk i + 1)) i = rd tk i + 1 := by
      unfold rd
      rw [List.getD_eq_getElem?_getD, List.getElem?_set_self (by rw [h.1]; omega)]
      rfl
    rw [this]
    omega
  · have : rd (tk.set x.toNat (rd tk x + 1)) i = rd tk i := by
      unfold rd
      rw [List.getD_eq_getElem?_getD, List.getElem?_set_ne (by omega), ← List.getD_eq_getElem?_getD]
    rw [this]
    exact ⟨a, b⟩
theorem okTk_zero (coins : List ByteArray) : okTk coins (List.replicate coins.length 0) := by
  refine ⟨by simp, fun i i0 i1 => ?_⟩
  have : rd (List.replicate coins.length 0) i = 0 := by
    unfold rd
    rw [List.getD_eq_getElem?_getD, List.getElem?_replicate]
    split <;> rfl
  rw [this]
  omega
theorem okSet_all (coins : List ByteArray) (h : coins.length ≤ 12) : okSet coins ((List.range coins.length).map fun i : Nat => (i : Int)) := by
  refine ⟨by simpa using h, fun x hx => ?_⟩
  obtain ⟨i, hi, rfl⟩ := List.mem_map.1 hx
  have := List.mem_range.1 hi
  omega
theorem nil_or_snoc {α : Type} (L : List α) : L = [] ∨ ∃ M s, L = M ++ [s] := by
  rcases List.eq_nil_or_concat L with h | ⟨M, s, h⟩
  · exact .inl h
  · exact .inr ⟨M, s, by rw [h, List.concat_eq_append]⟩
theorem rd_drop (s : List Int) (i : Nat) (h : i < s.length) : s.drop i = rd s (i : Int) :: s.drop (i + 1) := by
  rw [drop_at s i h, rd_at s i h]
theorem rd_mem (s : List Int) (i : Nat) (h : i < s.length) : rd s (i : Int) ∈ s := by
  rw [rd_at s i h]; exact List.getElem_mem _
theorem areCoins_len {coins : List ByteArray} (h : areCoins coins = true) : 1 ≤ coins.length ∧ coins.length ≤ 12 := by
  unfold areCoins at h
  simp only [Bool.and_eq_true, decide_eq_true_eq] at h
  exact h.1
theorem areCoins_size {coins : List ByteArray} (h : areCoins coins = true) (i : Int) (h0 : 0 ≤ i) (h1 : i < coins.length) : (rdOf ByteArray.empty coins i).size ≤ 40 := by
  unfold areCoins at h
  simp only [Bool.and_eq_true, decide_eq_true_eq] at h
  obtain ⟨n, rfl⟩ : ∃ n : Nat, i = n := ⟨i.toNat, by omega⟩
  have := List.all_eq_true.1 h.2 _ (List.getElem_mem (show n < coins.length by omega))
  rw [rdOf_at _ coins n (by omega)]
  simp only [Bool.and_eq_true, decide_eq_true_eq] at this
  exact this.2
end Go.Proofs.YtbbchbmoaahidaaDoor
