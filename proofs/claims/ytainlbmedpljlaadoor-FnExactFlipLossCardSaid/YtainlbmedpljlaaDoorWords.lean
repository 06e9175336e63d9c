/- Plain words of this claim: codes of words of bits, and their readers. -/
import Derived.Test.YtainlbmedpljlaaDoorPlain2
import Derived.Test.YtainlbmedpljlaaDoorWMore
set_option linter.unusedVariables false
namespace Go.Proofs.YtainlbmedpljlaaDoor
open Go.RowKit Go.Proofs.YtainlbmedpljlaaDoorW.PrintWords Go.Proofs.YtainlbmedpljlaaDoorW.PrintMore
theorem isEmpty_by (s : ByteArray) : s.toList.isEmpty = (by_ s).isEmpty := by rw [ByteArray.toList_eq]
theorem toList_by (s : ByteArray) : s.toList = by_ s := ByteArray.toList_eq s
theorem ext1 (s : ByteArray) (i : Nat) (h : i < (by_ s).length) : s.extract i (i + 1) = ⟨#[(by_ s)[i]]⟩ := by
  apply by_ext
  have e : by_ (s.extract i (i + 1)) = ((by_ s).drop i).take 1 := by
    simp only [by_, ByteArray.data_extract, Array.toList_extract, List.extract_eq_take_drop]
    rw [Nat.add_sub_cancel_left]
  rw [e, drop_at _ i h]
  rfl
/-- Is a text among some? -/
def has (l : List ByteArray) (s : ByteArray) : Bool := l.any fun w => by_ w == by_ s
/-- .. and where is the first one; -1 if it is nowhere. -/
def ixg : List ByteArray → ByteArray → Nat → Int
  | [], _, _ => -1
  | w :: l, s, i => if by_ w = by_ s then (i : Int) else ixg l s (i + 1)
theorem ixg_has : ∀ (l : List ByteArray) (s : ByteArray) (i : Nat), decide (ixg l s i ≥ 0) = has l s
  | [], _, _ => rfl
  | w :: l, s, i => by
    unfold has
    rw [List.any_cons]
    by_cases h : by_ w = by_ s
    · have e : (by_ w == by_ s) = true := by simpa using h
      simp only [ixg, if_pos h, e, Bool.true_or]
      exact decide_eq_true (by omega)
    · have e : (by_ w == by_ s) = false := by simpa using h
      simp only [ixg, if_neg h, e, Bool.false_or]
      exact ixg_has l s (i + 1)
def okWord (s : ByteArray) : Bool := decide (1 ≤ s.size) && decide (s.size ≤ 12) && bitsB s
/-- Words that are bits, none of them an elder one. -/
def cgo (l : List ByteArray) : Nat → List ByteArray → Bool
  | _, [] => true
  | i, w :: ws => okWord w && !has (l.take i) w && cgo l (i + 1) ws
def isCode (l : List ByteArray) : Bool := decide (1 ≤ l.length) && decide (l.length ≤ 16) && cgo l 0 l
/-- Does v begin with w? -/
def pre (v w : ByteArray) : Bool := decide (w.size ≤ v.size) && ((v.extract 0 w.size).toList == w.toList)
def pin (w : ByteArray) (i : Nat) : Nat → List ByteArray → Bool
  | _, [] => true
  | k, v :: vs => (decide (i = k) || !pre v w) && pin w i (k + 1) vs
def pout (l : List ByteArray) : Nat → List ByteArray → Bool
  | _, [] => true
  | i, w :: ws => pin w i 0 l && pout l (i + 1) ws
def isPre (l : List ByteArray) : Bool := pout l 0 l
/-- The sum of the words' shares. -/
def kgo : List ByteArray → Int → Int
  | [], a => a
  | w :: l, a => kgo l (wrap64 (a + shl .i64 1 (wrap64 (12 - (w.size : Int)))))
def isComplete (l : List ByteArray) : Bool := isCode l && (isPre l && kgo l 0 == 4096)
/-- What a reader has read behind one bit more. -/
def rdW (l : List ByteArray) (a b : ByteArray) : ByteArray := if has l (a ++ b) = true then ⟨#[]⟩ else a ++ b
theorem rdW_size (l : List ByteArray) (a b : ByteArray) : (rdW l a b).size ≤ a.size + b.size := by
  unfold rdW
  split
  · show 0 ≤ _; omega
  · rw [ByteArray.size_append]; omega
/-- Behind which bits a word ends. -/
def ego (l : List ByteArray) : ByteArray → List UInt8 → List Bool
  | _, [] => []
  | a, c :: t => (by_ (rdW l a ⟨#[c]⟩)).isEmpty :: ego l (rdW l a ⟨#[c]⟩) t
theorem ego_len (l : List ByteArray) : ∀ (t : List UInt8) (a : ByteArray), (ego l a t).length = t.length
  | [], _ => rfl
  | c :: t, a => congrArg Nat.succ (ego_len l t _)
def idxs : Nat → List Bool → List Int
  | _, [] => []
  | i, b :: t => if b = true then ((i + 1 : Nat) : Int) :: idxs (i + 1) t else idxs (i + 1) t
theorem idxs_len : ∀ (t : List Bool) (i : Nat), (idxs i t).length ≤ t.length
  | [], _ => Nat.le_refl _
  | b :: t, i => by
    have := idxs_len t (i + 1)
    simp only [idxs]
    split <;> simp <;> omega
theorem idxs_gt : ∀ (t : List Bool) (i : Nat) (x : Int), x ∈ idxs i t → (i : Int) < x
  | [], _, _, h => by cases h
  | b :: t, i, x, h => by
    simp only [idxs] at h
    split at h
    · rcases List.mem_cons.1 h with rfl | h
      · omega
      · have := idxs_gt t (i + 1) x h; omega
    · have := idxs_gt t (i + 1) x h; omega
theorem idxs_mem : ∀ (t : List Bool) (i j : Nat), ((i + j + 1 : Nat) : Int) ∈ idxs i t ↔ t[j]? = some true
  | [], i, j => by simp [idxs]
  | b :: t, i, 0 => by
    have hn : ¬ ((i + 0 + 1 : Nat) : Int) ∈ idxs (i + 1) t := fun h => by have := idxs_gt t (i + 1) _ h; omega
    simp only [idxs]
    cases b
    · simp only [Bool.false_eq_true, if_false, List.getElem?_cons_zero, Option.some.injEq]
      exact ⟨fun h => (hn h).elim, fun h => by cases h⟩
    · simp
  | b :: t, i, j + 1 => by
    have e : ((i + (j + 1) + 1 : Nat) : Int) = ((i + 1 + j + 1 : Nat) : Int) := by omega
    have ih := idxs_mem t (i + 1) j
    rw [e, List.getElem?_cons_succ, ← ih]
    simp only [idxs]
    split
    · rw [List.mem_cons]
      exact ⟨fun h => h.elim (fun h => by omega) id, .inr⟩
    · exact Iff.rfl
/-- From place b on: how many words of the first reader end, until both readers' do. -/
def fin2 : Nat → List Bool → List Bool → Int → Int × Int × Bool
  | b, e1 :: t1, e2 :: t2, n => if e1 = true then (if e2 = true then (n + 1, (b : Int), true) else fin2 (b + 1) t1 t2 (n + 1)) else fin2 (b + 1) t1 t2 n
  | _, _, _, _ => (0, 0, false)
def fin3 (p : Nat) : Nat → List Bool → List Bool → Int → Int × Int × Bool
  | j, e1 :: t1, e2 :: t2, n => if e1 = true then (if j + 1 ≤ p then fin3 p (j + 1) t1 t2 n else if e2 = true then (n + 1, ((j + 1 : Nat) : Int), true) else fin3 p (j + 1) t1 t2 (n + 1)) else fin3 p (j + 1) t1 t2 n
  | _, _, _, _ => (0, 0, false)
theorem fin3_ge (p : Nat) : ∀ (E1 E2 : List Bool) (j : Nat) (n : Int), p ≤ j → fin3 p j E1 E2 n = fin2 (j + 1) E1 E2 n
  | [], _, _, _, _ => by simp [fin3, fin2]
  | _ :: _, [], _, _, _ => by simp [fin3, fin2]
  | e1 :: t1, e2 :: t2, j, n, h => by
    simp only [fin3, fin2]
    rw [if_neg (show ¬ j + 1 ≤ p by omega), fin3_ge p t1 t2 (j + 1) (n + 1) (by omega), fin3_ge p t1 t2 (j + 1) n (by omega)]
theorem fin3_lt (p : Nat) : ∀ (d j : Nat) (E1 E2 : List Bool) (n : Int), j + d = p → E1.length = E2.length → fin3 p j E1 E2 n = fin2 (p + 1) (E1.drop d) (E2.drop d) n
  | 0, j, E1, E2, n, h, _ => by rw [fin3_ge p E1 E2 j n (by omega), show j = p by omega]; rfl
  | d + 1, j, [], [], n, h, _ => by simp [fin3, fin2]
  | d + 1, j, [], _ :: _, n, h, hl => by simp at hl
  | d + 1, j, _ :: _, [], n, h, hl => by simp at hl
  | d + 1, j, e1 :: t1, e2 :: t2, n, h, hl => by
    simp only [fin3, List.drop_succ_cons]
    have ih := fin3_lt p d (j + 1) t1 t2 n (by omega) (by simpa using hl)
    rw [if_pos (show j + 1 ≤ p by omega), ih]
    split <;> rfl
/-- The words of symbols, one after another. -/
def cat (l : List ByteArray) : List Int → ByteArray → ByteArray
  | [], s => s
  | x :: xs, s => cat l xs (s ++ rdOf ByteArray.empty l x)
def okSyms (l : List ByteArray) (xs : List Int) : Bool := xs.all fun x => decide (0 ≤ x) && decide (x ≤ (l.length : Int) - 1)
theorem cat_size (l : List ByteArray) (hl : ∀ w ∈ l, w.size ≤ 12) : ∀ (xs : List Int) (s : ByteArray), okSyms l xs = true → (cat l xs s).size ≤ s.size + 12 * xs.length
  | [], s, _ => by simp [cat]
  | x :: xs, s, h => by
    unfold okSyms at h
    simp only [List.all_cons, Bool.and_eq_true, decide_eq_true_eq] at h
    obtain ⟨n, rfl⟩ : ∃ n : Nat, x = n := ⟨x.toNat, by omega⟩
    have ih := cat_size l hl xs (s ++ rdOf ByteArray.empty l (n : Int)) h.2
    rw [rdOf_at _ l n (by omega)] at ih
    have := hl _ (List.getElem_mem (show n < l.length by omega))
    simp only [cat]
    rw [rdOf_at _ l n (by omega)]
    rw [ByteArray.size_append] at ih
    simp only [List.length_cons]
    omega
theorem bits_append (s t : ByteArray) : bitsB (s ++ t) = (bitsB s && bitsB t) := by unfold bitsB; rw [by_append, List.all_append]
theorem cat_bits (l : List ByteArray) (hl : ∀ w ∈ l, bitsB w = true) : ∀ (xs : List Int) (s : ByteArray), okSyms l xs = true → bitsB s = true → bitsB (cat l xs s) = true
  | [], s, _, h => h
  | x :: xs, s, h, hs => by
    unfold okSyms at h
    simp only [List.all_cons, Bool.and_eq_true, decide_eq_true_eq] at h
    obtain ⟨n, rfl⟩ : ∃ n : Nat, x = n := ⟨x.toNat, by omega⟩
    refine cat_bits l hl xs _ h.2 ?_
    rw [bits_append, hs, rdOf_at _ l n (by omega), hl _ (List.getElem_mem _)]
    rfl
theorem cgo_mem (l : List ByteArray) : ∀ (ws : List ByteArray) (i : Nat), cgo l i ws = true → ∀ w ∈ ws, okWord w = true
  | [], _, _, _, h => by cases h
  | w :: ws, i, hc, v, h => by
    simp only [cgo, Bool.and_eq_true] at hc
    rcases List.mem_cons.1 h with rfl | h
    · exact hc.1.1
    · exact cgo_mem l ws (i + 1) hc.2 v h
theorem code_word {l : List ByteArray} (h : isCode l = true) {w : ByteArray} (hw : w ∈ l) : 1 ≤ w.size ∧ w.size ≤ 12 ∧ bitsB w = true := by
  unfold isCode at h
  simp only [Bool.and_eq_true] at h
  have := cgo_mem l l 0 h.2 w hw
  unfold okWord at this
  simp only [Bool.and_eq_true, decide_eq_true_eq] at this
  exact ⟨this.1.1, this.1.2, this.2⟩
theorem code_len {l : List ByteArray} (h : isCode l = true) : 1 ≤ l.length ∧ l.length ≤ 16 := by
  unfold isCode at h
  simp only [Bool.and_eq_true, decide_eq_true_eq] at h
  exact h.1
/-- A text whose bit at a place is another one. -/
def flipped (s : ByteArray) (p : Nat) : ByteArray := ⟨((by_ s).take p ++ (if (by_ s)[p]? = some 49 then 48 else 49) :: (by_ s).drop (p + 1)).toArray⟩
def lossOf (l : List ByteArray) (s : ByteArray) (at_ : Int) : Int × Int × Bool :=
  if s.size ≤ 400 ∧ 0 ≤ at_ ∧ at_ < s.size then fin2 (at_.toNat + 1) ((ego l ⟨#[]⟩ (by_ s)).drop at_.toNat) ((ego l ⟨#[]⟩ (by_ (flipped s at_.toNat))).drop at_.toNat) 0
  else (0, 0, false)
def flipLoss (l : List ByteArray) (xs : List Int) (at_ : Int) : Int × Int × Bool :=
  if isComplete l = true ∧ 2 ≤ l.length ∧ xs.length ≤ 400 ∧ okSyms l xs = true then lossOf l (cat l xs ⟨#[]⟩) at_ else (0, 0, false)
theorem flipped_size (s : ByteArray) (p : Nat) (h : p < s.size) : (flipped s p).size = s.size := by
  rw [← by_length, ← by_length]
  rw [← by_length] at h
  unfold flipped
  rw [by_mk, List.length_append, List.length_cons, List.length_take, List.length_drop]
  omega
end Go.Proofs.YtainlbmedpljlaaDoor
