/- Plain words of this claim: bytes, bits, the check number, a journal's lines. -/
import Derived.Test.YtainlbmedpljlaaDoorWWords
import Derived.Lib.ItoaNum
set_option linter.unusedVariables false
namespace Go.Proofs.YtainlbmedpljlaaDoor
open Go.RowKit Go.Proofs.YtainlbmedpljlaaDoorW.PrintWords

theorem wrap64_id {x : Int} (h0 : -9223372036854775808 ≤ x) (h1 : x ≤ 9223372036854775807) : wrap64 x = x := by unfold wrap64; omega
/-- A text's bytes. -/
abbrev by_ (s : ByteArray) : List UInt8 := s.data.toList
theorem by_length (s : ByteArray) : (by_ s).length = s.size := by simp [by_]
theorem by_ext {s t : ByteArray} (h : by_ s = by_ t) : s = t := by
  cases s; cases t
  simp only [by_, Array.toList_inj] at h
  rw [h]
theorem by_mk (l : List UInt8) : by_ ⟨l.toArray⟩ = l := rfl
theorem by_append (s t : ByteArray) : by_ (s ++ t) = by_ s ++ by_ t := by simp [by_]
theorem bt_nat (s : ByteArray) (i : Nat) (h : i < (by_ s).length) : bt s (i : Int) = (((by_ s)[i]'h).toNat : Int) := by
  have h' : i < s.size := by rw [by_length] at h; exact h
  simp only [bt, Int.toNat_natCast, dif_pos h']
  rfl
theorem drop_at {α : Type} (l : List α) (i : Nat) (h : i < l.length) : l.drop i = l[i] :: l.drop (i + 1) := List.drop_eq_getElem_cons h
theorem take_at {α : Type} (l : List α) (i : Nat) (h : i < l.length) : l.take (i + 1) = l.take i ++ [l[i]] := by rw [List.take_succ_eq_append_getElem h]

theorem strOfNums_map (l : List UInt8) : strOfNums (l.map fun b => (b.toNat : Int)) = ⟨l.toArray⟩ := by
  unfold strOfNums
  congr 2
  rw [List.map_map]
  conv => rhs; rw [← List.map_id l]
  apply List.map_congr_left
  intro b _
  simp

/-- Are these bits, of whatever number? -/
def bitsB (s : ByteArray) : Bool := (by_ s).all fun c => c == 48 || c == 49
def nameB (s : ByteArray) : Bool := ((by_ s).all fun c => decide (97 ≤ c.toNat) && decide (c.toNat ≤ 122)) && decide (1 ≤ s.size) && decide (s.size ≤ 10)

/-! the check number, and a journal's line -/
def chk1 (n : Int) (c : UInt8) : Int := (3001 * n + (c.toNat : Int) + 5) % 65003
def chk (n : Int) (l : List UInt8) : Int := l.foldl chk1 n
theorem chk1_range (n : Int) (c : UInt8) : 0 ≤ chk1 n c ∧ chk1 n c ≤ 65002 := by unfold chk1; omega
theorem chk_range : ∀ (l : List UInt8) (n : Int), 0 ≤ n → n ≤ 65002 → 0 ≤ chk n l ∧ chk n l ≤ 65002
  | [], n, h0, h1 => ⟨h0, h1⟩
  | c :: l, n, _, _ => by
    have := chk1_range n c
    exact chk_range l (chk1 n c) this.1 this.2
def itoaB (n : Int) : ByteArray := ⟨(Lib.itoa n).toArray⟩
/-- A line of a journal. -/
def jline (n : Int) (s : ByteArray) : ByteArray := itoaB n ++ ⟨#[32]⟩ ++ s ++ ⟨#[10]⟩
/-- The journal of lines behind one that ends with the check number n; none if a line has a newline, or it is longer than told. -/
def jgo : List ByteArray → Int → ByteArray → Option ByteArray
  | [], _, acc => some acc
  | s :: ls, n, acc =>
    if (by_ s).contains 10 = true then none
    else if 4000 < (acc ++ jline (chk n (by_ s)) s).size then none
    else jgo ls (chk n (by_ s)) (acc ++ jline (chk n (by_ s)) s)
def jres : Option ByteArray → ByteArray × Bool
  | some b => (b, true)
  | none => (⟨#[]⟩, false)
/-- The journal of lines, however long. -/
def jacc : List ByteArray → Int → ByteArray → ByteArray
  | [], _, acc => acc
  | s :: ls, n, acc => jacc ls (chk n (by_ s)) (acc ++ jline (chk n (by_ s)) s)
theorem jacc_ge : ∀ (ls : List ByteArray) (n : Int) (acc : ByteArray), acc.size ≤ (jacc ls n acc).size
  | [], _, _ => Nat.le_refl _
  | s :: ls, n, acc => Nat.le_trans (by rw [ByteArray.size_append]; omega) (jacc_ge ls _ _)
theorem decDigits_len (n : Nat) (h : n < 100000) : (Lib.decDigits n).length ≤ 5 := by
  unfold Lib.decDigits
  split
  · simp
  · rw [List.length_append]
    unfold Lib.decDigits
    split
    · simp
    · rw [List.length_append]
      unfold Lib.decDigits
      split
      · simp
      · rw [List.length_append]
        unfold Lib.decDigits
        split
        · simp
        · rw [List.length_append]
          unfold Lib.decDigits
          split
          · simp
          · omega
theorem itoa_len (n : Int) (h0 : 0 ≤ n) (h1 : n ≤ 65002) : (itoaB n).size ≤ 5 := by
  have := decDigits_len n.toNat (by omega)
  simp only [itoaB, ByteArray.size, List.size_toArray, Lib.itoa]
  rw [if_neg (by omega)]
  exact this
theorem decDigits_pos (n : Nat) : 1 ≤ (Lib.decDigits n).length := by
  rw [Lib.decDigits]
  split
  · simp
  · simp
theorem itoa_pos (n : Int) : 1 ≤ (Lib.itoa n).length := by
  unfold Lib.itoa
  split
  · simp
  · exact decDigits_pos _
theorem jline_size (n : Int) (s : ByteArray) : (jline n s).size = (itoaB n).size + s.size + 2 := by
  simp only [jline, ByteArray.size_append]
  have h1 : (⟨#[32]⟩ : ByteArray).size = 1 := rfl
  have h2 : (⟨#[10]⟩ : ByteArray).size = 1 := rfl
  omega
/-! lists of texts -/
def total : List ByteArray → Nat
  | [] => 0
  | s :: l => s.size + total l
theorem rdOf_at {α : Type} (d : α) (l : List α) (i : Nat) (h : i < l.length) : rdOf d l (i : Int) = l[i] := by
  simp only [rdOf, Int.toNat_natCast, List.getD_eq_getElem?_getD, List.getElem?_eq_getElem h]
  rfl
theorem rd_at (l : List Int) (i : Nat) (h : i < l.length) : rd l (i : Int) = l[i] := by
  simp only [rd, Int.toNat_natCast, List.getD_eq_getElem?_getD, List.getElem?_eq_getElem h]
  rfl
theorem size_le_total : ∀ {l : List ByteArray} {s : ByteArray}, s ∈ l → s.size ≤ total l
  | t :: l, s, h => by
    rcases List.mem_cons.1 h with rfl | h
    · simp only [total]; omega
    · have := size_le_total h; simp only [total]; omega
theorem toList_inj {s t : ByteArray} : s.toList = t.toList ↔ s = t := by
  constructor
  · intro h
    have h1 : ∀ u : ByteArray, u.toList = u.data.toList := fun u => ByteArray.toList_eq u
    rw [h1, h1] at h
    exact by_ext h
  · rintro rfl; rfl
/-! the two ways in which a journal is told -/
def noNl (l : List ByteArray) : Prop := ∀ s ∈ l, (by_ s).contains 10 = false
theorem jgo_yes : ∀ (l : List ByteArray) (n : Int) (acc : ByteArray), noNl l → (jacc l n acc).size ≤ 4000 → jgo l n acc = some (jacc l n acc)
  | [], _, _, _, _ => rfl
  | s :: l, n, acc, h, hs => by
    have h1 := h s List.mem_cons_self
    have h2 := jacc_ge l (chk n (by_ s)) (acc ++ jline (chk n (by_ s)) s)
    simp only [jacc] at hs
    simp only [jgo, jacc]
    rw [if_neg (by rw [h1]; decide), if_neg (by omega)]
    exact jgo_yes l _ _ (fun t ht => h t (List.mem_cons_of_mem _ ht)) hs
theorem jgo_no : ∀ (l : List ByteArray) (n : Int) (acc : ByteArray), acc.size ≤ 4000 → ¬ (noNl l ∧ (jacc l n acc).size ≤ 4000) → jgo l n acc = none
  | [], n, acc, ha, h => absurd (show noNl [] ∧ acc.size ≤ 4000 from ⟨(fun _ hx => (by cases hx)), ha⟩) h
  | s :: l, n, acc, ha, h => by
    simp only [jgo]
    by_cases h1 : (by_ s).contains 10 = true
    · rw [if_pos h1]
    · rw [if_neg h1]
      by_cases h2 : 4000 < (acc ++ jline (chk n (by_ s)) s).size
      · rw [if_pos h2]
      · rw [if_neg h2]
        refine jgo_no l _ _ (by omega) (fun hh => h ⟨fun t ht => ?_, hh.2⟩)
        rcases List.mem_cons.1 ht with rfl | ht
        · simpa using h1
        · exact hh.1 t ht
theorem jacc_size_ge : ∀ (l : List ByteArray) (n : Int) (acc : ByteArray), 0 ≤ n → n ≤ 65002 → acc.size + (total l + 3 * l.length) ≤ (jacc l n acc).size ∧ (jacc l n acc).size ≤ acc.size + (total l + 7 * l.length)
  | [], _, acc, _, _ => by simp [jacc, total]
  | s :: l, n, acc, h0, h1 => by
    have hr := chk_range (by_ s) n h0 h1
    have ih := jacc_size_ge l (chk n (by_ s)) (acc ++ jline (chk n (by_ s)) s) hr.1 hr.2
    have h3 := itoa_len (chk n (by_ s)) hr.1 hr.2
    have h4 : 1 ≤ (itoaB (chk n (by_ s))).size := by
      simp only [itoaB, ByteArray.size, List.size_toArray]
      exact itoa_pos _
    rw [ByteArray.size_append, jline_size] at ih
    simp only [jacc, total, List.length_cons]
    omega
end Go.Proofs.YtainlbmedpljlaaDoor
