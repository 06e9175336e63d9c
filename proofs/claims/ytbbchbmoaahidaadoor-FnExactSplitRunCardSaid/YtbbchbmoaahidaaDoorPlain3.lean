/- Plain words of this claim: lines of a text, and what of a journal is recovered. -/
import Derived.Test.YtbbchbmoaahidaaDoorPlain2
import Derived.Lib.IndexMore
import Derived.Lib.IndexBytes
set_option linter.unusedVariables false
namespace Go.Proofs.YtbbchbmoaahidaaDoor
open Go.RowKit Go.Proofs.YtbbchbmoaahidaaDoorW.PrintWords
/-- How far the first such byte is (the length, if there is none). -/
def spc (c : UInt8) : List UInt8 → Nat
  | [] => 0
  | b :: l => if b = c then 0 else spc c l + 1
theorem spc_le (c : UInt8) : ∀ l : List UInt8, spc c l ≤ l.length
  | [] => Nat.le_refl _
  | b :: l => by
    have := spc_le c l
    simp only [spc, List.length_cons]
    split <;> omega
theorem spc_ne (c : UInt8) : ∀ (l : List UInt8) (i : Nat) (h : i < l.length), i < spc c l → l[i] ≠ c
  | [], i, h, _ => by simp at h
  | b :: l, 0, h, hi => by
    simp only [spc] at hi
    split at hi
    · omega
    · simpa
  | b :: l, i + 1, h, hi => by
    simp only [spc] at hi
    split at hi
    · omega
    · simp only [List.getElem_cons_succ]
      exact spc_ne c l i (by simpa using h) (by omega)
theorem spc_eq (c : UInt8) (l : List UInt8) : spc c (c :: l) = 0 := if_pos rfl
theorem spc_step {c b : UInt8} (l : List UInt8) (h : ¬ b = c) : spc c (b :: l) = spc c l + 1 := if_neg h
theorem spc_at? (c : UInt8) : ∀ (l : List UInt8) (h : spc c l < l.length), l[spc c l]? = some c
  | [], h => by simp at h
  | b :: l, h => by
    by_cases hb : b = c
    · subst hb
      rw [spc_eq]; rfl
    · rw [spc_step l hb] at h ⊢
      rw [List.getElem?_cons_succ]
      exact spc_at? c l (by simpa using h)
theorem spc_at (c : UInt8) (l : List UInt8) (h : spc c l < l.length) : l[spc c l] = c := by
  have := spc_at? c l h
  rw [List.getElem?_eq_getElem h] at this
  exact Option.some.inj this
theorem indexByte_spc (c : UInt8) : ∀ l : List UInt8, Lib.indexByte l c = if spc c l < l.length then (spc c l : Int) else -1
  | [] => rfl
  | b :: l => by
    have ih := indexByte_spc c l
    have hl : (b :: l).length = l.length + 1 := rfl
    by_cases hb : b = c
    · subst hb
      rw [spc_eq, if_pos (by omega)]
      simp [Lib.indexByte]
    · have e : (b == c) = false := by simpa using hb
      have u : Lib.indexByte (b :: l) c = if Lib.indexByte l c = -1 then -1 else Lib.indexByte l c + 1 := by
        simp only [Lib.indexByte, e]
        simp
      rw [u, spc_step l hb]
      by_cases h : spc c l < l.length
      · rw [if_pos h] at ih
        rw [ih, if_neg (by omega), if_pos (by omega)]
        omega
      · rw [if_neg h] at ih
        rw [ih, if_pos rfl, if_neg (by omega)]
/-- The lines of a text, the last one behind the last newline. -/
def pgo : List UInt8 → List UInt8 → List (List UInt8)
  | [], cur => [cur]
  | c :: t, cur => if c = 10 then cur :: pgo t [] else pgo t (cur ++ [c])
theorem pgo_len : ∀ (t cur : List UInt8), 1 ≤ (pgo t cur).length ∧ (pgo t cur).length ≤ t.length + 1
  | [], _ => ⟨Nat.le_refl _, Nat.le_refl _⟩
  | c :: t, cur => by
    have h1 := pgo_len t []
    have h2 := pgo_len t (cur ++ [c])
    simp only [pgo]
    split
    · simp only [List.length_cons]; omega
    · simp only [List.length_cons]; omega
theorem pgo_size : ∀ (t cur l : List UInt8), l ∈ pgo t cur → l.length ≤ cur.length + t.length
  | [], cur, l, h => by simp [pgo] at h; subst h; simp
  | c :: t, cur, l, h => by
    simp only [pgo] at h
    split at h
    · rcases List.mem_cons.1 h with rfl | h
      · simp
      · have := pgo_size t [] l h
        simp at this ⊢; omega
    · have := pgo_size t (cur ++ [c]) l h
      simp at this ⊢; omega
/-- The complete lines. -/
def lgo (t cur : List UInt8) : List (List UInt8) := (pgo t cur).dropLast
theorem lgo_spc : ∀ (t cur : List UInt8), lgo t cur = if spc 10 t < t.length then (cur ++ t.take (spc 10 t)) :: lgo (t.drop (spc 10 t + 1)) [] else []
  | [], cur => rfl
  | c :: t, cur => by
    by_cases hc : c = 10
    · subst hc
      rw [spc_eq, if_pos (by simp)]
      have u : pgo (10 :: t) cur = cur :: pgo t [] := if_pos rfl
      unfold lgo
      rw [u]
      have := pgo_len t []
      rw [List.dropLast_cons_of_ne_nil (by intro h; rw [h] at this; simp at this)]
      simp
    · have ih := lgo_spc t (cur ++ [c])
      have u : pgo (c :: t) cur = pgo t (cur ++ [c]) := if_neg hc
      have hl : (c :: t).length = t.length + 1 := rfl
      rw [spc_step t hc]
      unfold lgo at ih ⊢
      rw [u, ih, List.take_succ_cons, List.drop_succ_cons]
      by_cases h : spc 10 t < t.length
      · rw [if_pos h, if_pos (by omega)]
        simp
      · rw [if_neg h, if_neg (by omega)]
/-- What is recovered: of each line the text behind its first blank, as long as what stands ahead of it is the check number. -/
def rl : List (List UInt8) → Int → List ByteArray → Int → List ByteArray × Int
  | [], _, out, a => (out, a)
  | l :: ls, n, out, a =>
    if spc 32 l < l.length then
      (if l.take (spc 32 l) = Lib.itoa (chk n (l.drop (spc 32 l + 1))) then
        rl ls (chk n (l.drop (spc 32 l + 1))) (out ++ [⟨(l.drop (spc 32 l + 1)).toArray⟩]) (a + l.length + 1)
      else (out, a))
    else (out, a)
def recov (s : ByteArray) : List ByteArray × Int × Bool :=
  if 4000 < s.size then ([], 0, false) else ((rl (lgo (by_ s) []) 0 [] 0).1, (rl (lgo (by_ s) []) 0 [] 0).2, true)
theorem rl_len : ∀ (ls : List (List UInt8)) (n : Int) (out : List ByteArray) (a : Int), (rl ls n out a).1.length ≤ out.length + ls.length
  | [], _, out, _ => by simp [rl]
  | l :: ls, n, out, a => by
    simp only [rl]
    split
    · split
      · have := rl_len ls (chk n (l.drop (spc 32 l + 1))) (out ++ [⟨(l.drop (spc 32 l + 1)).toArray⟩]) (a + l.length + 1)
        simp at this ⊢; omega
      · simp
    · simp
theorem recov_len (s : ByteArray) : (recov s).1.length ≤ 4001 := by
  unfold recov
  split
  · simp
  · have h1 := rl_len (lgo (by_ s) []) 0 [] 0
    have h2 := pgo_len (by_ s) []
    rw [by_length] at h2
    unfold lgo at h1 ⊢
    simp only [List.length_dropLast, List.length_nil] at h1
    show (rl (pgo (by_ s) []).dropLast 0 [] 0).1.length ≤ 4001
    omega
theorem by_extract (s : ByteArray) (a b : Nat) : by_ (s.extract a b) = ((by_ s).drop a).take (b - a) := by
  simp [by_, ByteArray.data_extract]
theorem told_iff (s : ByteArray) (n : Int) : s.toList = (itoaB n).toList ↔ by_ s = Lib.itoa n := by
  rw [toList_inj]
  constructor
  · rintro rfl; simp [itoaB, by_]
  · intro h; exact by_ext (by rw [h]; simp [itoaB, by_])
end Go.Proofs.YtbbchbmoaahidaaDoor
