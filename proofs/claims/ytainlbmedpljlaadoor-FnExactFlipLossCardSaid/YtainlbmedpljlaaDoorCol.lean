/- Own rows told apart by colours: each block has one; a row's own block, and what its elements lead to, have the row's colour. -/
import Derived.Test.YtainlbmedpljlaaDoorWWords
import Derived.Test.YtainlbmedpljlaaDoorWApart
set_option linter.unusedVariables false
namespace Go.Proofs.YtainlbmedpljlaaDoor
open Go.RowKit Go.Proofs.YtainlbmedpljlaaDoorW.PrintWords
/-- A row of colour c has been written (or made): all rows of other colours are as they were. -/
def Moved (c : Nat) (col col' : Nat → Nat) (W w1 : World) : Prop :=
  ∀ (α : Type) (d : Kd α) (e base a : Nat) (u : Value) (ys : List α), a ≠ c → d.R e W base (fun k => col k = a) u ys → d.R e w1 base (fun k => col' k = a) u ys
def up (col : Nat → Nat) (n c : Nat) : Nat → Nat := fun k => if k < n then col k else c
theorem up_lt {col : Nat → Nat} {n c k : Nat} (h : k < n) : up col n c k = col k := if_pos h
theorem up_ge {col : Nat → Nat} {n c k : Nat} (h : n ≤ k) : up col n c k = c := if_neg (by omega)
theorem col_up {α : Type} {d : Kd α} {e base a : Nat} {col : Nat → Nat} {W : World} {v : Value} {xs : List α} (h : d.R e W base (fun k => col k = a) v xs) (c : Nat) : d.R e W base (fun k => up col W.heap.size c k = a) v xs :=
  Kd.R_mono (Kd.R_bound h) (fun k hk => by rw [up_lt hk.2.2.1]; exact hk.1)
theorem moved_up {c : Nat} {col : Nat → Nat} {W w1 : World} {row : Option Nat} (hv : ∀ k, row = some k → col k = c) (hg : W.grownBy w1 row) : Moved c col (up col W.heap.size c) W w1 :=
  fun α d e base a u ys hac h => Kd.R_step (col_up h c) (fun k hk hlt => hg.block k hlt (fun he => hac (by rw [up_lt hlt] at hk; rw [← hk, hv k he.symm])))
theorem moved_same {c : Nat} {col : Nat → Nat} {W w1 : World} {g : Nat} (hv : col g = c) (hg : W.grownBy w1 (some g)) : Moved c col col W w1 :=
  fun α d e base a u ys hac h => Kd.R_step h (fun k hk hlt => hg.block k hlt (fun he => hac (by injection he with he; rw [← hk, he, hv])))
theorem col_apart {α β : Type} {d : Kd α} {d' : Kd β} {e e' base base' a b : Nat} {col : Nat → Nat} {W : World} {v u : Value} {xs : List α} {ys : List β} (hab : a ≠ b) (h : d.R e W base (fun k => col k = a) v xs) (h' : d'.R e' W base' (fun k => col k = b) u ys) : d.R e W base (fun k => some k ≠ u.ownBlock) v xs :=
  Kd.R_mono h (fun k hk he => hab (by rw [← hk, h'.1 k he.symm]))
/-- Blocks of one colour take another one. -/
def re (col : Nat → Nat) (x y : Nat) : Nat → Nat := fun k => if col k = x then y else col k
theorem re_other {α : Type} {d : Kd α} {e base a x y : Nat} {col : Nat → Nat} {W : World} {v : Value} {xs : List α} (hax : a ≠ x) (h : d.R e W base (fun k => col k = a) v xs) : d.R e W base (fun k => re col x y k = a) v xs :=
  Kd.R_mono h (fun k hk => by unfold re; rw [if_neg (by rw [hk]; exact hax)]; exact hk)
theorem re_self {α : Type} {d : Kd α} {e base x y : Nat} {col : Nat → Nat} {W : World} {v : Value} {xs : List α} (h : d.R e W base (fun k => col k = x) v xs) : d.R e W base (fun k => re col x y k = y) v xs :=
  Kd.R_mono h (fun k hk => by unfold re; rw [if_pos hk])
section
variable {P : Program} {ops : Array Oper} {rest : List Oper} {o : Oper} {a : Act} {Q : Exit → Act → World → Prop} {α : Type}
/-- append(v, p). -/
theorem col_append (d : Kd α) {w0 W : World} (base : Nat) (hgd : o.guard = none) (s x : Operand) (t e : TypeId) (z : Value) (bytes : Nat)
    (ho : o.op = .call { callee := .builtin .append, args := #[s, x], argTypes := #[t, t] })
    (ht : P.underlying t = some (.slice e)) (hinfo : (P.info? e).map (fun i => (i.zero, i.size, i.bytes)) = some (some z, d.sz, bytes)) (hz : z.cells.size = d.sz) (hs0 : 0 < d.sz) (hb0 : 0 < bytes)
    (v : Value) (xs : List α) (p : α) (cs : List Value) (c : Nat) (col : Nat → Nat) (hs : a.eval s = v) (hx : a.eval x = .slice (some ⟨W.heap.size, 0, none⟩) 1 1) (hp : d.M W base (fun _ => False) p cs)
    (HO : d.R e W base (fun k => col k = c) v xs) (HB : Below base w0 W) (hbase : base ≤ W.heap.size) (hl : (xs.length + 1) * bytes ≤ 140737488355328)
    (h : ∀ v1 w1 (col' : Nat → Nat), Moved c col col' W w1 → d.R e w1 base (fun k => col' k = c) v1 (xs ++ [p]) → Below base w0 w1 → wpList P ops Q rest (a.put o.dst v1) w1) :
    wpList P ops Q (o :: rest) a (W.alloc (.cells cs.toArray e)) :=
  Kd.R_append d base hgd s x t e z bytes ho ht hinfo hz hs0 hb0 v xs p cs (fun k => up col W.heap.size c k = c) (fun _ => False) hs hx hp (fun _ hk => hk.elim) (fun k hk => up_ge hk) (col_up HO c) HB hbase hl
    fun v1 w1 h1 h2 h3 h4 => h v1 w1 _ (moved_up (fun k hk => HO.1 k hk) h3) h1 h2
/-- []T{..} of scalars, or of what has the colours that okp tells. -/
theorem col_lit (d : Kd α) {w0 W : World} (base e : Nat) (hgd : o.guard = none) {N : Tmp} (hd : o.dst = some N) {xs : List α} {inner : List Value} (c : Nat) (col : Nat → Nat)
    (hrun : (execOp a.eval o).run P W = .ok (.value (.slice (some ⟨W.heap.size, 0, none⟩) xs.length xs.length)) (W.alloc (.cells inner.toArray e)))
    (hrep : Reps (d.M W base (fun k => col k = c ∧ k < W.heap.size)) d.sz xs inner) (HB : Below base w0 W) (hbase : base ≤ W.heap.size) (hm : xs.length ≤ 9223372036854775807)
    (h : ∀ v1 w1 (col' : Nat → Nat), Moved c col col' W w1 → d.R e w1 base (fun k => col' k = c) v1 xs → Below base w0 w1 → wpList P ops Q rest (a.put o.dst v1) w1) : wpList P ops Q (o :: rest) a W :=
  Kd.R_lit d base e hgd hd (ok := fun k => up col W.heap.size c k = c) (okp := fun k => col k = c ∧ k < W.heap.size) hrun hrep (fun k hk => by rw [up_lt hk.2]; exact hk.1) (up_ge (Nat.le_refl _)) HB hbase hm
    fun v1 w1 h1 h2 h3 h4 => h v1 w1 _ (moved_up (fun k hk => by cases hk) h3) h1 h2
/-- make([]T, n). -/
theorem col_make (d : Kd α) {w0 W : World} (base e : Nat) (hgd : o.guard = none) {N : Tmp} (hd : o.dst = some N) (t : TypeId) (x y : Operand) (ho : o.op = .makeSlice t x y) (n : Int) (hx : a.eval x = .int .i64 n) (hy : a.eval y = .int .i64 n)
    (ht : P.underlying t = some (.slice e)) (z : Value) (bytes : Nat) (hinfo : (P.info? e).map (fun i => (i.zero, i.size, i.bytes)) = some (some z, d.sz, bytes)) (hz : z.cells.size = d.sz) (hs0 : 0 < d.sz) (hb0 : 0 < bytes)
    (z0 : α) (c : Nat) (col : Nat → Nat) (hzero : d.M W base (fun _ => False) z0 z.cells.toList) (h0 : 0 ≤ n) (hl : n.toNat * bytes ≤ 281474976710656) (HB : Below base w0 W) (hbase : base ≤ W.heap.size)
    (h : ∀ v1 w1 (col' : Nat → Nat), Moved c col col' W w1 → d.R e w1 base (fun k => col' k = c) v1 (List.replicate n.toNat z0) → Below base w0 w1 → wpList P ops Q rest (a.put o.dst v1) w1) : wpList P ops Q (o :: rest) a W :=
  Kd.R_make d base e hgd hd t x y ho n hx hy ht z bytes hinfo hz hs0 hb0 z0 (ok := fun k => up col W.heap.size c k = c) (okp := fun _ => False) hzero (fun _ hk => hk.elim) (up_ge (Nat.le_refl _)) h0 hl HB hbase
    fun v1 w1 h1 h2 h3 h4 => h v1 w1 _ (moved_up (fun k hk => by cases hk) h3) h1 h2
/-- append(v, lit...): lit is a row whose elements lead to what has the colours that okp tells; its own block plays no part. -/
theorem col_append_row (d : Kd α) {w0 W : World} (base : Nat) (hgd : o.guard = none) (s x : Operand) (t e : TypeId) (z : Value) (bytes : Nat)
    (ho : o.op = .call { callee := .builtin .append, args := #[s, x], argTypes := #[t, t] })
    (ht : P.underlying t = some (.slice e)) (hinfo : (P.info? e).map (fun i => (i.zero, i.size, i.bytes)) = some (some z, d.sz, bytes)) (hz : z.cells.size = d.sz) (hs0 : 0 < d.sz) (hb0 : 0 < bytes)
    (v u : Value) (xs ys : List α) (c c' : Nat) (hcc : c' ≠ c) (col : Nat → Nat) (hs : a.eval s = v) (hx : a.eval x = u)
    (HO : d.R e W base (fun k => col k = c) v xs) (HU : d.R e W base (fun k => col k = c') u ys) (HB : Below base w0 W) (hbase : base ≤ W.heap.size) (hl : (xs.length + ys.length) * bytes ≤ 140737488355328)
    (h : ∀ v1 w1 (col' : Nat → Nat), (∀ (α : Type) (d : Kd α) (e base a : Nat) (u : Value) (ys : List α), a ≠ c → a ≠ c' → d.R e W base (fun k => col k = a) u ys → d.R e w1 base (fun k => col' k = a) u ys) → d.R e w1 base (fun k => col' k = c) v1 (xs ++ ys) → Below base w0 w1 → wpList P ops Q rest (a.put o.dst v1) w1) :
    wpList P ops Q (o :: rest) a W := by
  obtain ⟨A, m, he, _, hr⟩ := OwnRow.reads HU.2
  have hcol : ∀ (α : Type) (d : Kd α) (e base a : Nat) (u : Value) (ys : List α), a ≠ c → a ≠ c' → d.R e W base (fun k => col k = a) u ys → d.R e W base (fun k => (if col k = c' then c else col k) = a) u ys :=
    fun α d e base a u ys h1 h2 h => Kd.R_mono h (fun k hk => by rw [if_neg (by rw [hk]; exact h2)]; exact hk)
  have HO' : d.R e W base (fun k => (if col k = c' then c else col k) = c) v xs := Kd.R_mono HO (fun k hk => by split <;> simp_all)
  refine Kd.R_append_rows d (Rr := d.M W base (fun k => col k = c' ∧ some k ≠ u.ownBlock)) base hgd s x t e z bytes ho ht hinfo hz hs0 hb0 v xs ys A ys.length m (fun k => up (fun k => if col k = c' then c else col k) W.heap.size c k = c) (fun k => col k = c' ∧ k < W.heap.size) hs (hx.trans he) (col_up HO' c) hr
    (fun x cs hm => d.M_mono (fun k hk => ⟨hk.1.1, hk.2.2.1⟩) (d.M_bound hm))
    (fun k hk => ⟨by rw [up_lt hk.2]; exact if_pos hk.1, fun he => hcc (by rw [← hk.1, HO.1 k he.symm])⟩) (fun k hk => up_ge hk) HB hbase hl ?_
  intro v1 w1 h1 h2 h3 h4
  refine h v1 w1 (up (fun k => if col k = c' then c else col k) W.heap.size c) ?_ h1 h2
  intro β d2 e2 b2 a2 u2 ys2 n1 n2 hr2
  exact moved_up (fun k hk => HO'.1 k hk) h3 _ _ _ _ _ _ _ n1 (hcol _ _ _ _ _ _ _ n1 n2 hr2)
end
end Go.Proofs.YtainlbmedpljlaaDoor
