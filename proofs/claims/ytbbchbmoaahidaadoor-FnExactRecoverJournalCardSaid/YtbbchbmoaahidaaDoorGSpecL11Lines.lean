-- written by this claim's own program out of the translation
import Derived.Test.YtbbchbmoaahidaaDoorG0
import Derived.Test.YtbbchbmoaahidaaDoorGSpecL11Cut
namespace Go.Proofs.YtbbchbmoaahidaaDoor.G
open Go.RowKit Go.Proofs.YtbbchbmoaahidaaDoorW.PrintWords Go.Proofs.YtbbchbmoaahidaaDoorW.PrintLast Go.Proofs.YtbbchbmoaahidaaDoorW.PrintMore
attribute [local go_sem] max2_int min2_int max_two min_two max_three min_three max_four min_four   -- for this text's walks alone
set_option linter.unusedVariables false
set_option linter.unusedSimpArgs false

/-! ### spec_l11Lines: function 45 -/
def spec_l11Lines.f (k : Nat) (a0 : ByteArray) : Option (List ByteArray × ByteArray) := (spec_l11Cut.f k a0 10).bind fun l => if 1 ≤ l.length ∧ l.length ≤ 8796093022208 then some (l.take (l.length - 1), l.getD (l.length - 1) ByteArray.empty) else none
theorem spec_l11Lines.mono : ∀ a0 k, LeO (spec_l11Lines.f k a0) (spec_l11Lines.f (k + 1) a0) := by
  intro a0 k
  unfold spec_l11Lines.f
  repeat' first
    | exact spec_l11Cut.mono _ _ _
    | exact LeO.refl _
    | refine LeO.bind ?_ (fun _ => ?_)
set_option maxHeartbeats 1600000 in
set_option maxRecDepth 100000 in
theorem spec_l11Lines.calls (k : Nat) (a0 : ByteArray) (r1 : List ByteArray) (r2 : ByteArray) (w : World) (h : spec_l11Lines.f k a0 = some (r1, r2)) :
    Calls Tryd.prog 45 #[.string a0] w fun e w' => ∃ v0_ : Value, e = .returned (.tuple #[v0_, .string r2]) ∧ Kd.R Kd.string 9 w' w.heap.size (fun _ => True) v0_ r1 ∧ Below w.heap.size w w' := by
  unfold spec_l11Lines.f at h
  obtain ⟨l, hl, h⟩ := Option.bind_eq_some_iff.mp h
  have h' : (if 1 ≤ l.length ∧ l.length ≤ 8796093022208 then some (l.take (l.length - 1), l.getD (l.length - 1) ByteArray.empty) else none) = some (r1, r2) := h
  by_cases hs : 1 ≤ l.length ∧ l.length ≤ 8796093022208
  · rw [if_pos hs] at h'
    simp only [Option.some.injEq, Prod.mk.injEq] at h'
    obtain ⟨rfl, rfl⟩ := h'
    clear h
    have HK := Aside0.mk (spec_l11Cut.calls k a0 10 l w hl)
    clear hl
    generalize hla : l.getD (l.length - 1) ByteArray.empty = last
    have HLA := Aside0.mk hla
    clear hla
    go_enter Tryd.func45, Tryd.ntmps45
    go_wp2_with (go_at_call 62; refine HK.out.mono ?_; rintro e w1 ⟨v, rfl, ho, hb⟩; obtain ⟨A, c, rfl⟩ := Kd.R_slice ho)
    have hr := Kd.R_reads' ho
    have hcl := hr.2.1
    have hC := hr.2.2
    have hlen := hs.1
    have hmax := hs.2
    clear hr hs
    obtain ⟨m, hm⟩ : ∃ m : Nat, l.length = m + 1 := ⟨l.length - 1, by omega⟩
    have hmw : IntKind.i64.wrap ((l.length : Int) - 1) = (m : Int) := (i64_w _).trans ((wrap64_id (by omega) (by omega)).trans (by omega))
    obtain ⟨ad, ea, hx⟩ := Kd.at_string hC (m : Int) (by omega) (by omega)
    cases ea
    have hg : rdOf ByteArray.empty l (m : Int) = l.getD (l.length - 1) ByteArray.empty := by
      rw [rdOf_at _ l m (by omega), List.getD_eq_getElem?_getD, show l.length - 1 = m by omega, List.getElem?_eq_getElem (by omega)]
      rfl
    rw [hg, HLA.out] at hx
    simp only [Int.toNat_natCast] at hx
    have h1 : (0 : Int) ≤ (m : Int) := by omega
    have h2 : (m : Int) ≤ (c : Int) := by omega
    have h3 : (m : Int) < (l.length : Int) := by omega
    have HO := Aside0.mk ho
    have HB := Aside0.mk hb
    have HM := Aside0.mk hm
    clear hC hg hlen hmax hm ho hb
    go_wp2
    go_quiet (fail)
    go_wp2
    go_ret2
    exact ⟨_, rfl, by rw [show l.length - 1 = m by have := HM.out; omega]; exact Kd.R_drewN (Kd.R_take HO.out (by have := HM.out; omega)) _, by repeat (first | exact HB.out | apply pw_below_drewN)⟩
  · rw [if_neg hs] at h'; cases h'
theorem spec_l11Lines.any (s : ByteArray) (hs : s.size ≤ 8796093022206) : ∃ r2, Ev (fun k => spec_l11Lines.f k s) ((lgo (by_ s) []).map fun l => ⟨l.toArray⟩, r2) := by
  have h := pgo_len (by_ s) []
  rw [by_length] at h
  refine ⟨((pgo (by_ s) []).map fun l => (⟨l.toArray⟩ : ByteArray)).getD (((pgo (by_ s) []).map fun l => (⟨l.toArray⟩ : ByteArray)).length - 1) ByteArray.empty, ?_⟩
  unfold spec_l11Lines.f
  refine Ev.bind (spec_l11Cut.any s hs) ⟨0, fun k _ => ?_⟩
  rw [if_pos ⟨by rw [List.length_map]; omega, by rw [List.length_map]; omega⟩]
  show some (((pgo (by_ s) []).map fun l => (⟨l.toArray⟩ : ByteArray)).take (((pgo (by_ s) []).map fun l => (⟨l.toArray⟩ : ByteArray)).length - 1), _) = _
  rw [← List.dropLast_eq_take, ← List.map_dropLast]
  rfl

end Go.Proofs.YtbbchbmoaahidaaDoor.G
