-- written by this claim's own program out of the translation
import Derived.Test.YtainlbmedpljlaaDoorG0
import Derived.Test.YtainlbmedpljlaaDoorH2
import Derived.Test.YtainlbmedpljlaaDoorH1
namespace Go.Proofs.YtainlbmedpljlaaDoor.G
open Go.RowKit Go.Proofs.YtainlbmedpljlaaDoorW.PrintWords Go.Proofs.YtainlbmedpljlaaDoorW.PrintLast Go.Proofs.YtainlbmedpljlaaDoorW.PrintMore
attribute [local go_sem] max2_int min2_int max_two min_two max_three min_three max_four min_four   -- for this text's walks alone
set_option linter.unusedVariables false
set_option linter.unusedSimpArgs false
section
/-! ### spec_l05Ends: function 17 -/
def spec_l05Ends.l0 : Nat → List ByteArray → ByteArray → List Int → ByteArray → Int → Option (List Int)
  | 0, _, _, _, _, _ => none
  | k + 1, x0, x1, x5, x6, x7 => if x7 < (x1.size : Int) then (if 0 ≤ x7 then (if x7 ≤ (wrap64 (x7 + 1)) then (if (wrap64 (x7 + 1)) ≤ (x1.size : Int) then ((spec_l05Read.f k x0 x6 (x1.extract (x7 : Int).toNat ((wrap64 (x7 + 1)) : Int).toNat)).bind fun t120 => (if t120.toList = ([] : List UInt8) then (if x5.length < 17592186044416 then (spec_l05Ends.l0 k x0 x1 (x5 ++ [wrap64 (x7 + 1)]) t120 (wrap64 (x7 + 1))) else (none)) else (spec_l05Ends.l0 k x0 x1 x5 t120 (wrap64 (x7 + 1))))) else (none)) else (none)) else (none)) else (some x5)
def spec_l05Ends.f (k : Nat) (l0 : List ByteArray) (a1 : ByteArray) : Option (List Int) := spec_l05Ends.l0 k l0 a1 (([] : List Int)) (⟨#[]⟩ : ByteArray) 0
theorem spec_l05Ends.mono_l : ∀ k, (∀ y0 y1 y2 y3 y4, LeO (spec_l05Ends.l0 k y0 y1 y2 y3 y4) (spec_l05Ends.l0 (k + 1) y0 y1 y2 y3 y4))
  | 0 => fun _ _ _ _ _ r h => by simp [spec_l05Ends.l0] at h
  | k + 1 => by
    have ih0 := spec_l05Ends.mono_l k
    · intro y0 y1 y2 y3 y4
      unfold spec_l05Ends.l0
      repeat' first
      | (with_reducible exact ih0 _ _ _ _ _)
      | (with_reducible exact spec_l05Read.mono _ _ _ _)
      | (with_reducible exact LeO.refl _)
      | (with_reducible exact LeO.none _)
      | (with_reducible refine LeO.ite ?_ ?_)
      | (with_reducible refine LeO.bind ?_ (fun _ => ?_))
      | exact ih0 _ _ _ _ _
      | exact spec_l05Read.mono _ _ _ _
      | exact LeO.none _
      | refine LeO.ite ?_ ?_
      | refine LeO.bind ?_ (fun _ => ?_)
theorem spec_l05Ends.mono : ∀ a0 a1 k, LeO (spec_l05Ends.f k a0 a1) (spec_l05Ends.f (k + 1) a0 a1) := by
  intro a0 a1 k
  have ih0 := spec_l05Ends.mono_l k
  unfold spec_l05Ends.f
  repeat' first
      | (with_reducible exact ih0 _ _ _ _ _)
      | (with_reducible exact spec_l05Read.mono _ _ _ _)
      | (with_reducible exact LeO.refl _)
      | (with_reducible exact LeO.none _)
      | (with_reducible refine LeO.ite ?_ ?_)
      | (with_reducible refine LeO.bind ?_ (fun _ => ?_))
      | exact ih0 _ _ _ _ _
      | exact spec_l05Read.mono _ _ _ _
      | exact LeO.none _
      | refine LeO.ite ?_ ?_
      | refine LeO.bind ?_ (fun _ => ?_)
set_option maxHeartbeats 8000000 in
set_option maxRecDepth 100000 in
theorem spec_l05Ends.calls (k : Nat) (A0 : Option Addr) (c0 : Nat) (l0 : List ByteArray) (a1 : ByteArray) (r : List Int) (w : World) (hr0 : Kd.C Kd.string w A0 l0.length l0) (hc0 : l0.length ≤ c0) (h : spec_l05Ends.f k l0 a1 = some r) :
    Calls Tryd.prog 17 #[.slice A0 l0.length c0, .string a1] w fun e w' => ∃ v0_ : Value, e = .returned (v0_) ∧ Kd.R (Kd.int .i64) 2 w' w.heap.size (fun _ => True) v0_ r ∧ Below w.heap.size w w' := by
  have HR0 := Aside0.mk hr0
  have HC0 := Aside0.mk hc0
  clear hr0 hc0
  have HB := Aside0.mk (Below.refl w.heap.size w)
  have H : (spec_l05Ends.l0 k l0 a1 (([] : List Int)) (⟨#[]⟩ : ByteArray) 0) = some r := h
  clear h
  obtain ⟨y117, hy117⟩ : ∃ y_ : List Int, y_ = (([] : List Int)) := ⟨_, rfl⟩
  replace H : (spec_l05Ends.l0 k l0 a1 y117 (⟨#[]⟩ : ByteArray) 0) = some r := by first | (rw [hy117]; with_reducible exact H) | (have H2_ := (Option.bind_some _ _).symm.trans H; rw [hy117]; with_reducible exact H2_) | (have H2_ := (Option.bind_some _ _).symm.trans H; with_reducible exact H2_) | with_reducible exact H | (rw [hy117]; exact H) | exact H
  have Ny117 := Aside0.mk hy117
  clear hy117
  have H' := Aside0.mk H
  clear H
  go_enter Tryd.func17, Tryd.ntmps17
  go_wp2_with (first | ((with_reducible refine gate_dst (N := 8) rfl ?_); refine Kd.R_lit (Kd.int .i64) _ 2 ?hg (N := 8) ?hd (xs := ([] : List Int)) (inner := []) (ok := fun _ => True) (okp := fun _ => True) ?hr ?hp (fun _ hk => hk) trivial (Below.refl _ _) (Nat.le_refl _) (by simp) ?_; (case hd => rfl); (case hg => rfl); (case hr => first | (go_simp; done) | (go_simp; rfl)); (case hp => exact (Reps.none _ _)); intro v118 w3 ho4 hb hg_ hnew_; clear hg_ hnew_; (first | rw [← Ny117.out] at ho4 | (simp only [Int.reduceToNat] at ho4; rw [← Ny117.out] at ho4)); have n0_ := Aside0.mk (Kd.R_lower ho4 (below_size (by repeat (first | (with_reducible first | exact HB.out | apply below_alloc | apply pw_below_drewN | apply below_drew1) | exact HB.out)))); have n1_ := Aside0.mk (below_step (by repeat (first | (with_reducible first | exact HB.out | apply below_alloc | apply pw_below_drewN | apply below_drew1) | exact HB.out)) hb); clear HB; have HO119 := n0_; have HB := n1_; clear n0_ n1_; clear hb ho4))
  go_loopg [5, 6, 7] k (fun kq v5 v6 v7 w' => ∃ (x5_1 : List Int) (x6_1 : ByteArray) (x7_1 : Int), v6 = .string x6_1 ∧ v7 = .int .i64 x7_1 ∧ Aside0 (spec_l05Ends.l0 kq l0 a1 x5_1 x6_1 x7_1 = some r) ∧ Aside0 (kq ≤ k) ∧ Aside0 (Kd.R (Kd.int .i64) 2 w' w.heap.size (fun _ => True) v5 x5_1) ∧ Aside0 (Below w.heap.size w w'))
  case atStart => exact ⟨(y117), ((⟨#[]⟩ : ByteArray)), (0), (by first | rfl | (simp; done) | (simp [*]; done)), (by first | rfl | (simp; done) | (simp [*]; done)), H', ⟨Nat.le_refl _⟩, ⟨by (with_reducible repeat (first | apply Kd.R_alloc | apply Kd.R_drewN | apply Kd.R_drew)); exact HO119.out⟩, ⟨by repeat (first | (with_reducible first | exact HB.out | apply below_alloc | apply pw_below_drewN | apply below_drew1) | exact HB.out)⟩⟩
  case round =>
    clear H'
    try clear c1
    try clear p2
    obtain ⟨x5_1, x6_1, x7_1, rfl, rfl, HA, HK1, HO_5, HB⟩ := hrel
    cases gk with
    | zero => exact absurd HA.out (by simp [spec_l05Ends.l0])
    | succ k1 =>
      have H := HA.out
      clear HA
      simp only [spec_l05Ends.l0] at H
      by_cases c5 : x7_1 < (a1.size : Int)
      · rw [if_pos c5] at H
        have c5b0 : decide (x7_1 < (a1.size : Int)) = true := decide_eq_true c5
        clear c5
        by_cases c6 : 0 ≤ x7_1
        · rw [if_pos c6] at H
          have c6b0 := eq_true c6
          have c6b1 : decide (0 ≤ x7_1) = true := decide_eq_true c6
          clear c6
          by_cases c7 : x7_1 ≤ (wrap64 (x7_1 + 1))
          · rw [if_pos c7] at H
            have c7b0 := eq_true c7
            have c7b1 : decide (x7_1 ≤ (wrap64 (x7_1 + 1))) = true := decide_eq_true c7
            by_cases c8 : (wrap64 (x7_1 + 1)) ≤ (a1.size : Int)
            · rw [if_pos c8] at H
              have c8b0 := eq_true c8
              have c8b1 : decide ((wrap64 (x7_1 + 1)) ≤ (a1.size : Int)) = true := decide_eq_true c8
              replace H := Option.bind_eq_some_iff.mp H
              obtain ⟨t120, A90, H⟩ := H
              replace H : (if t120.toList = ([] : List UInt8) then (if x5_1.length < 17592186044416 then (spec_l05Ends.l0 k1 l0 a1 (x5_1 ++ [wrap64 (x7_1 + 1)]) t120 (wrap64 (x7_1 + 1))) else (none)) else (spec_l05Ends.l0 k1 l0 a1 x5_1 t120 (wrap64 (x7_1 + 1)))) = some r := H
              have A9 := Aside0.mk A90
              clear A90
              by_cases c10 : t120.toList = ([] : List UInt8)
              · rw [if_pos c10] at H
                have c10b0 : (t120.toList == ([] : List UInt8)) = true := beq_iff_eq.mpr c10
                have c10b1 : (t120.toList != ([] : List UInt8)) = false := bne_eq_false_iff_eq.mpr c10
                clear c10
                by_cases c11 : x5_1.length < 17592186044416
                · rw [if_pos c11] at H
                  have LMc11 := Aside0.mk c11
                  clear c11
                  obtain ⟨y121, hy121⟩ : ∃ y_ : List Int, y_ = (x5_1 ++ [wrap64 (x7_1 + 1)]) := ⟨_, rfl⟩
                  replace H : (spec_l05Ends.l0 k1 l0 a1 y121 t120 (wrap64 (x7_1 + 1))) = some r := by first | (rw [hy121]; with_reducible exact H) | (have H2_ := (Option.bind_some _ _).symm.trans H; rw [hy121]; with_reducible exact H2_) | (have H2_ := (Option.bind_some _ _).symm.trans H; with_reducible exact H2_) | with_reducible exact H | (rw [hy121]; exact H) | exact H
                  have Ny121 := Aside0.mk hy121
                  clear hy121
                  have H' := Aside0.mk H
                  clear H
                  go_wp2_with (first | ((with_reducible refine gate_callee (f := 27) rfl ?_); refine goesL_ (some 22) rfl rfl Tryd.func27 (by kernel_rfl) rfl #[.slice A0 l0.length c0, .string x6_1, .string (a1.extract (x7_1 : Int).toNat ((wrap64 (x7_1 + 1)) : Int).toNat)] rfl (by (try simp only [List.map_toArray, List.map_cons, List.map_nil]); first | done | rfl | (simp only [List.length_drop, List.length_take]; rfl)) ?_; (with_reducible refine (spec_l05Read.calls k1 _ _ l0 x6_1 (a1.extract (x7_1 : Int).toNat ((wrap64 (x7_1 + 1)) : Int).toNat) t120 _ ?side1 ?side2 A9.out).mono ?_); (case side1 => repeat (first | exact (Kd.C_below HR0.out HB.out) | (with_reducible refine Kd.C_alloc ?_ _) | (with_reducible refine Kd.C_drewN ?_ _) | (with_reducible refine Kd.C_drew ?_))); (case side2 => exact HC0.out); rintro e w' ⟨rfl, ⟨nd, rfl⟩⟩; refine ⟨_, rfl, ?_⟩) | ((with_reducible refine gate_builtin (b := .append) (xs := #[.tmp 25, .tmp 28]) rfl ?_); at_builtin; refine Kd.R_append (Kd.int .i64) (w0 := w) w.heap.size rfl (.tmp 25) (.tmp 28) 23 2 (.int .i64 0) 8 rfl Tryd.underlying23 info2 rfl (by decide) (by omega) u5 x5_1 (wrap64 (x7_1 + 1)) [.int .i64 (wrap64 (x7_1 + 1))] (fun _ => True) (fun _ => False) rfl rfl ?aP (fun _ hk => hk.elim) ?aF ?aO ?aB ?aS ?aL ?_; (case aP => exact rfl); (case aB => exact (by repeat (first | (with_reducible first | exact HB.out | apply below_alloc | apply pw_below_drewN | apply below_drew1) | exact HB.out))); (case aF => exact (fun _ _ => trivial)); (case aO => exact (by (with_reducible repeat (first | apply Kd.R_alloc | apply Kd.R_drewN | apply Kd.R_drew)); exact HO_5.out)); (case aS => exact (below_size (by repeat (first | (with_reducible first | exact HB.out | apply below_alloc | apply pw_below_drewN | apply below_drew1) | exact HB.out)))); (case aL => have := LMc11.out; omega); intro v122 w12 ho hb hg hat; rw [← Ny121.out] at ho; have n0_ := Aside0.mk (hb); have n1_ := Aside0.mk (ho); clear HB; clear HO_5; have HB := n0_; have HO123 := n1_; clear n0_ n1_; clear ho hb hg hat))
                  go_roundg k1
                  case measure => have := HK1.out; omega
                  case rel => exact ⟨(y121), (t120), (wrap64 (x7_1 + 1)), (by first | rfl | (simp; done) | (simp [*]; done)), (by first | rfl | (simp; done) | (simp [*]; done)), H', ⟨by have := HK1.out; omega⟩, ⟨by (with_reducible repeat (first | apply Kd.R_alloc | apply Kd.R_drewN | apply Kd.R_drew)); exact HO123.out⟩, ⟨by repeat (first | (with_reducible first | exact HB.out | apply below_alloc | apply pw_below_drewN | apply below_drew1) | exact HB.out)⟩⟩
                · rw [if_neg c11] at H
                  exact absurd H (by simp)
              · rw [if_neg c10] at H
                have c10b0 : (t120.toList == ([] : List UInt8)) = false := beq_eq_false_iff_ne.mpr c10
                have c10b1 : (t120.toList != ([] : List UInt8)) = true := bne_iff_ne.mpr c10
                have H' := Aside0.mk H
                clear H
                go_wp2_with (first | ((with_reducible refine gate_callee (f := 27) rfl ?_); refine goesL_ (some 22) rfl rfl Tryd.func27 (by kernel_rfl) rfl #[.slice A0 l0.length c0, .string x6_1, .string (a1.extract (x7_1 : Int).toNat ((wrap64 (x7_1 + 1)) : Int).toNat)] rfl (by (try simp only [List.map_toArray, List.map_cons, List.map_nil]); first | done | rfl | (simp only [List.length_drop, List.length_take]; rfl)) ?_; (with_reducible refine (spec_l05Read.calls k1 _ _ l0 x6_1 (a1.extract (x7_1 : Int).toNat ((wrap64 (x7_1 + 1)) : Int).toNat) t120 _ ?side1 ?side2 A9.out).mono ?_); (case side1 => repeat (first | exact (Kd.C_below HR0.out HB.out) | (with_reducible refine Kd.C_alloc ?_ _) | (with_reducible refine Kd.C_drewN ?_ _) | (with_reducible refine Kd.C_drew ?_))); (case side2 => exact HC0.out); rintro e w' ⟨rfl, ⟨nd, rfl⟩⟩; refine ⟨_, rfl, ?_⟩))
                go_roundg k1
                case measure => have := HK1.out; omega
                case rel => exact ⟨(x5_1), (t120), (wrap64 (x7_1 + 1)), (by first | rfl | (simp; done) | (simp [*]; done)), (by first | rfl | (simp; done) | (simp [*]; done)), H', ⟨by have := HK1.out; omega⟩, ⟨by (with_reducible repeat (first | apply Kd.R_alloc | apply Kd.R_drewN | apply Kd.R_drew)); exact HO_5.out⟩, ⟨by repeat (first | (with_reducible first | exact HB.out | apply below_alloc | apply pw_below_drewN | apply below_drew1) | exact HB.out)⟩⟩
            · rw [if_neg c8] at H
              exact absurd H (by simp)
          · rw [if_neg c7] at H
            exact absurd H (by simp)
        · rw [if_neg c6] at H
          exact absurd H (by simp)
      · rw [if_neg c5] at H
        have c5b0 : decide (x7_1 < (a1.size : Int)) = false := decide_eq_false c5
        clear c5
        obtain rfl := Option.some.inj H
        go_wp2
        go_ret
        exact ⟨_, by first | rfl | (simp [errW_none, errW_some] <;> rfl) | (simp [*, errW_none, errW_some] <;> rfl), by (with_reducible repeat (first | apply Kd.R_alloc | apply Kd.R_drewN | apply Kd.R_drew)); exact HO_5.out, by repeat (first | (with_reducible first | exact HB.out | apply below_alloc | apply pw_below_drewN | apply below_drew1) | exact HB.out)⟩
theorem spec_l05Ends.l0_any (l : List ByteArray) (s : ByteArray) (hl : l.length ≤ 140737488351232) (hs : s.size ≤ 4294967296) : ∀ (d i : Nat) (acc : List Int) (a : ByteArray), i + d = s.size → acc.length ≤ i → a.size ≤ i →
    Ev (fun k => spec_l05Ends.l0 k l s acc a (i : Int)) (acc ++ idxs i (ego l a ((by_ s).drop i)))
  | 0, i, acc, a, hi, _, _ => by
    refine Ev.step (f := fun _ => some _) (fun k => ?_) (Ev.now _)
    simp only [spec_l05Ends.l0]
    rw [if_neg (by omega), List.drop_eq_nil_of_le (by rw [by_length]; omega)]
    simp [ego, idxs]
  | d + 1, i, acc, a, hi, hc, ha => by
    have hlt : i < (by_ s).length := by rw [by_length]; omega
    have hr := spec_l05Read.any l a (⟨#[(by_ s)[i]]⟩ : ByteArray) hl (by show a.size + 1 ≤ _; omega)
    have hz : (rdW l a ⟨#[(by_ s)[i]]⟩).size ≤ a.size + 1 := rdW_size l a ⟨#[(by_ s)[i]]⟩
    have ih1 := spec_l05Ends.l0_any l s hl hs d (i + 1) (acc ++ [((i + 1 : Nat) : Int)]) (rdW l a ⟨#[(by_ s)[i]]⟩) (by omega) (by simp; omega) (by omega)
    have ih2 := spec_l05Ends.l0_any l s hl hs d (i + 1) acc (rdW l a ⟨#[(by_ s)[i]]⟩) (by omega) (by omega) (by omega)
    rw [drop_at _ i hlt]
    simp only [ego]
    refine Ev.step (f := fun k => (spec_l05Read.f k l a (⟨#[(by_ s)[i]]⟩ : ByteArray)).bind fun t120 => (if t120.toList = ([] : List UInt8) then (spec_l05Ends.l0 k l s (acc ++ [((i + 1 : Nat) : Int)]) t120 ((i + 1 : Nat) : Int)) else (spec_l05Ends.l0 k l s acc t120 ((i + 1 : Nat) : Int)))) (fun k => ?_) (Ev.bind hr ?_)
    · simp only [spec_l05Ends.l0]
      rw [by_length] at hlt
      rw [if_pos (by omega), if_pos (by omega), wrap64_id (x := (i : Int) + 1) (by omega) (by omega), if_pos (by omega), if_pos (by omega), show ((i : Int) + 1) = ((i + 1 : Nat) : Int) by omega, Int.toNat_natCast, Int.toNat_natCast, ext1 s i (by rw [by_length]; exact hlt)]
      simp only [if_pos (show acc.length < 17592186044416 by omega)]
    · generalize rdW l a ⟨#[(by_ s)[i]]⟩ = r at ih1 ih2 ⊢
      by_cases h : by_ r = []
      · have e : (by_ r).isEmpty = true := by rw [h]; rfl
        rw [e]
        refine Ev.congr (fun k => if_pos (by rw [toList_by]; exact h)) ?_
        simp only [idxs, if_true]
        rw [List.append_assoc] at ih1
        exact ih1
      · have e : (by_ r).isEmpty = false := by simpa using h
        rw [e]
        refine Ev.congr (fun k => if_neg (by rw [toList_by]; exact h)) ?_
        simp only [idxs, Bool.false_eq_true, if_false]
        exact ih2
theorem spec_l05Ends.any (l : List ByteArray) (s : ByteArray) (hl : l.length ≤ 140737488351232) (hs : s.size ≤ 4294967296) : Ev (fun k => spec_l05Ends.f k l s) (idxs 0 (ego l ⟨#[]⟩ (by_ s))) :=
  spec_l05Ends.l0_any l s hl hs s.size 0 [] ⟨#[]⟩ (by omega) (by simp) (by show 0 ≤ 0; omega)
end
section
/-! ### spec_l03Other: function 18 -/
def spec_l03Other.l0 : Nat → ByteArray → List Int → Int → Option (ByteArray)
  | 0, _, _, _ => none
  | k + 1, x0, x3, x4 => if x4 < (x0.size : Int) then (if 0 ≤ x4 then (if x3.length < 140737488355328 then (spec_l03Other.l0 k x0 (x3 ++ [(97 - (bt x0 x4)) % 256]) (wrap64 (x4 + 1))) else (none)) else (none)) else (some (strOfNums x3))
def spec_l03Other.f (k : Nat) (a0 : ByteArray) : Option (ByteArray) := spec_l03Other.l0 k a0 (([] : List Int)) 0
theorem spec_l03Other.mono_l : ∀ k, (∀ y0 y1 y2, LeO (spec_l03Other.l0 k y0 y1 y2) (spec_l03Other.l0 (k + 1) y0 y1 y2))
  | 0 => fun _ _ _ r h => by simp [spec_l03Other.l0] at h
  | k + 1 => by
    have ih0 := spec_l03Other.mono_l k
    · intro y0 y1 y2
      unfold spec_l03Other.l0
      repeat' first
      | (with_reducible exact ih0 _ _ _)
      | (with_reducible exact LeO.refl _)
      | (with_reducible exact LeO.none _)
      | (with_reducible refine LeO.ite ?_ ?_)
      | (with_reducible refine LeO.bind ?_ (fun _ => ?_))
      | exact ih0 _ _ _
      | exact LeO.none _
      | refine LeO.ite ?_ ?_
      | refine LeO.bind ?_ (fun _ => ?_)
theorem spec_l03Other.mono : ∀ a0 k, LeO (spec_l03Other.f k a0) (spec_l03Other.f (k + 1) a0) := by
  intro a0 k
  have ih0 := spec_l03Other.mono_l k
  unfold spec_l03Other.f
  repeat' first
      | (with_reducible exact ih0 _ _ _)
      | (with_reducible exact LeO.refl _)
      | (with_reducible exact LeO.none _)
      | (with_reducible refine LeO.ite ?_ ?_)
      | (with_reducible refine LeO.bind ?_ (fun _ => ?_))
      | exact ih0 _ _ _
      | exact LeO.none _
      | refine LeO.ite ?_ ?_
      | refine LeO.bind ?_ (fun _ => ?_)
set_option maxHeartbeats 8000000 in
set_option maxRecDepth 100000 in
theorem spec_l03Other.calls (k : Nat) (a0 : ByteArray) (r : ByteArray) (w : World) (h : spec_l03Other.f k a0 = some r) :
    Calls Tryd.prog 18 #[.string a0] w fun e w' => e = .returned (.string r) ∧ Below w.heap.size w w' := by
  have HB := Aside0.mk (Below.refl w.heap.size w)
  have H : (spec_l03Other.l0 k a0 (([] : List Int)) 0) = some r := h
  clear h
  obtain ⟨y124, hy124⟩ : ∃ y_ : List Int, y_ = (([] : List Int)) := ⟨_, rfl⟩
  replace H : (spec_l03Other.l0 k a0 y124 0) = some r := by first | (rw [hy124]; with_reducible exact H) | (have H2_ := (Option.bind_some _ _).symm.trans H; rw [hy124]; with_reducible exact H2_) | (have H2_ := (Option.bind_some _ _).symm.trans H; with_reducible exact H2_) | with_reducible exact H | (rw [hy124]; exact H) | exact H
  have Ny124 := Aside0.mk hy124
  clear hy124
  have H' := Aside0.mk H
  clear H
  go_enter Tryd.func18, Tryd.ntmps18
  go_wp2_with (first | ((with_reducible refine gate_dst (N := 5) rfl ?_); refine Kd.R_lit (Kd.int .u8) _ 5 ?hg (N := 5) ?hd (xs := ([] : List Int)) (inner := []) (ok := fun _ => True) (okp := fun _ => True) ?hr ?hp (fun _ hk => hk) trivial (Below.refl _ _) (Nat.le_refl _) (by simp) ?_; (case hd => rfl); (case hg => rfl); (case hr => first | (go_simp; done) | (go_simp; rfl)); (case hp => exact (Reps.none _ _)); intro v125 w2 ho3 hb hg_ hnew_; clear hg_ hnew_; (first | rw [← Ny124.out] at ho3 | (simp only [Int.reduceToNat] at ho3; rw [← Ny124.out] at ho3)); have n0_ := Aside0.mk (Kd.R_lower ho3 (below_size (by repeat (first | (with_reducible first | exact HB.out | apply below_alloc | apply pw_below_drewN | apply below_drew1) | exact HB.out)))); have n1_ := Aside0.mk (below_step (by repeat (first | (with_reducible first | exact HB.out | apply below_alloc | apply pw_below_drewN | apply below_drew1) | exact HB.out)) hb); clear HB; have HO126 := n0_; have HB := n1_; clear n0_ n1_; clear hb ho3))
  go_loopg [3, 4] k (fun kq v3 v4 w' => ∃ (x3_1 : List Int) (x4_1 : Int), v4 = .int .i64 x4_1 ∧ Aside0 (spec_l03Other.l0 kq a0 x3_1 x4_1 = some r) ∧ Aside0 (kq ≤ k) ∧ Aside0 (Kd.R (Kd.int .u8) 5 w' w.heap.size (fun _ => True) v3 x3_1) ∧ Aside0 (Below w.heap.size w w'))
  case atStart => exact ⟨(y124), (0), (by first | rfl | (simp; done) | (simp [*]; done)), H', ⟨Nat.le_refl _⟩, ⟨by (with_reducible repeat (first | apply Kd.R_alloc | apply Kd.R_drewN | apply Kd.R_drew)); exact HO126.out⟩, ⟨by repeat (first | (with_reducible first | exact HB.out | apply below_alloc | apply pw_below_drewN | apply below_drew1) | exact HB.out)⟩⟩
  case round =>
    clear H'
    try clear c1
    try clear p2
    obtain ⟨x3_1, x4_1, rfl, HA, HK1, HO_3, HB⟩ := hrel
    cases gk with
    | zero => exact absurd HA.out (by simp [spec_l03Other.l0])
    | succ k1 =>
      have H := HA.out
      clear HA
      simp only [spec_l03Other.l0] at H
      by_cases c4 : x4_1 < (a0.size : Int)
      · rw [if_pos c4] at H
        have c4b0 : decide (x4_1 < (a0.size : Int)) = true := decide_eq_true c4
        clear c4
        by_cases c5 : 0 ≤ x4_1
        · rw [if_pos c5] at H
          have c5b0 : decide (0 ≤ x4_1) = true := decide_eq_true c5
          clear c5
          by_cases c7 : x3_1.length < 140737488355328
          · rw [if_pos c7] at H
            have LMc7 := Aside0.mk c7
            clear c7
            obtain ⟨y127, hy127⟩ : ∃ y_ : List Int, y_ = (x3_1 ++ [(97 - (bt a0 x4_1)) % 256]) := ⟨_, rfl⟩
            replace H : (spec_l03Other.l0 k1 a0 y127 (wrap64 (x4_1 + 1))) = some r := by first | (rw [hy127]; with_reducible exact H) | (have H2_ := (Option.bind_some _ _).symm.trans H; rw [hy127]; with_reducible exact H2_) | (have H2_ := (Option.bind_some _ _).symm.trans H; with_reducible exact H2_) | with_reducible exact H | (rw [hy127]; exact H) | exact H
            have Ny127 := Aside0.mk hy127
            clear hy127
            have H' := Aside0.mk H
            clear H
            have p6 : 0 ≤ (x4_1 : Int) := of_decide_eq_true (by first | (with_reducible assumption) | assumption)
            have q6 : x4_1 < (a0.size : Int) := of_decide_eq_true (by first | (with_reducible assumption) | assumption)
            have hx6 := bt_at a0 x4_1
            replace p6 := eq_true p6
            replace q6 := eq_true q6
            go_wp2_with (first | ((with_reducible refine gate_builtin (b := .append) (xs := #[.tmp 12, .tmp 17]) rfl ?_); at_builtin; refine Kd.R_append (Kd.int .u8) (w0 := w) w.heap.size rfl (.tmp 12) (.tmp 17) 46 5 (.int .u8 0) 1 rfl Tryd.underlying46 info5 rfl (by decide) (by omega) u3 x3_1 ((97 - (bt a0 x4_1)) % 256) [.int .u8 ((97 - (bt a0 x4_1)) % 256)] (fun _ => True) (fun _ => False) rfl rfl ?aP (fun _ hk => hk.elim) ?aF ?aO ?aB ?aS ?aL ?_; (case aP => exact rfl); (case aB => exact (by repeat (first | (with_reducible first | exact HB.out | apply below_alloc | apply pw_below_drewN | apply below_drew1) | exact HB.out))); (case aF => exact (fun _ _ => trivial)); (case aO => exact (by (with_reducible repeat (first | apply Kd.R_alloc | apply Kd.R_drewN | apply Kd.R_drew)); exact HO_3.out)); (case aS => exact (below_size (by repeat (first | (with_reducible first | exact HB.out | apply below_alloc | apply pw_below_drewN | apply below_drew1) | exact HB.out)))); (case aL => have := LMc7.out; omega); intro v128 w8 ho hb hg hat; rw [← Ny127.out] at ho; have n0_ := Aside0.mk (hb); have n1_ := Aside0.mk (ho); clear HB; clear HO_3; have HB := n0_; have HO129 := n1_; clear n0_ n1_; clear ho hb hg hat))
            go_roundg k1
            case measure => have := HK1.out; omega
            case rel => exact ⟨(y127), (wrap64 (x4_1 + 1)), (by first | rfl | (simp; done) | (simp [*]; done)), H', ⟨by have := HK1.out; omega⟩, ⟨by (with_reducible repeat (first | apply Kd.R_alloc | apply Kd.R_drewN | apply Kd.R_drew)); exact HO129.out⟩, ⟨by repeat (first | (with_reducible first | exact HB.out | apply below_alloc | apply pw_below_drewN | apply below_drew1) | exact HB.out)⟩⟩
          · rw [if_neg c7] at H
            exact absurd H (by simp)
        · rw [if_neg c5] at H
          exact absurd H (by simp)
      · rw [if_neg c4] at H
        have c4b0 : decide (x4_1 < (a0.size : Int)) = false := decide_eq_false c4
        clear c4
        obtain rfl := Option.some.inj H
        have hcv9 := own_string (P := Tryd.prog) Tryd.underlying46 Tryd.underlying5 Tryd.underlying9 (Kd.own_of_R HO_3.out)
        go_wp2
        go_ret
        exact ⟨by first | rfl | (simp [errW_none, errW_some] <;> rfl) | (simp [*, errW_none, errW_some] <;> rfl), by repeat (first | (with_reducible first | exact HB.out | apply below_alloc | apply pw_below_drewN | apply below_drew1) | exact HB.out)⟩
theorem spec_l03Other.one (c : UInt8) (hc : c = 48 ∨ c = 49) : Ev (fun k => spec_l03Other.f k ⟨#[c]⟩) ⟨#[if c = 49 then 48 else 49]⟩ := by
  have hb : bt ⟨#[c]⟩ (0 : Int) = (c.toNat : Int) := bt_nat ⟨#[c]⟩ 0 (by show 0 < 1; omega)
  have hz : ((⟨#[c]⟩ : ByteArray).size : Int) = 1 := rfl
  have e : strOfNums [(97 - (c.toNat : Int)) % 256] = ⟨#[if c = 49 then 48 else 49]⟩ := by
    have h2 := strOfNums_map [if c = 49 then 48 else 49]
    rw [← h2]
    congr 1
    rcases hc with rfl | rfl <;> rfl
  unfold spec_l03Other.f
  refine Ev.step (f := fun k => spec_l03Other.l0 k ⟨#[c]⟩ ([] ++ [(97 - bt ⟨#[c]⟩ 0) % 256]) 1) (fun k => ?_) (Ev.step (f := fun _ => some _) (fun k => ?_) (Ev.now _))
  · simp only [spec_l03Other.l0]
    rw [hz, if_pos (by omega), if_pos (by omega), if_pos (by simp), Int.zero_add, wrap64_id (x := 1) (by omega) (by omega)]
  · simp only [spec_l03Other.l0]
    rw [hz, if_neg (by omega), hb]
    exact congrArg some e
end
section
/-! ### spec_l00Has: function 19 -/
def spec_l00Has.l0 : Nat → List Int → Int → Int → Option (Bool)
  | 0, _, _, _ => none
  | k + 1, x0, x1, x5 => if x5 < (x0.length : Int) then (if 0 ≤ x5 then (if (rd x0 x5) = x1 then (some true) else (spec_l00Has.l0 k x0 x1 (wrap64 (x5 + 1)))) else (none)) else (some false)
def spec_l00Has.f (k : Nat) (l0 : List Int) (a1 : Int) : Option (Bool) := spec_l00Has.l0 k l0 a1 0
theorem spec_l00Has.mono_l : ∀ k, (∀ y0 y1 y2, LeO (spec_l00Has.l0 k y0 y1 y2) (spec_l00Has.l0 (k + 1) y0 y1 y2))
  | 0 => fun _ _ _ r h => by simp [spec_l00Has.l0] at h
  | k + 1 => by
    have ih0 := spec_l00Has.mono_l k
    · intro y0 y1 y2
      unfold spec_l00Has.l0
      repeat' first
      | (with_reducible exact ih0 _ _ _)
      | (with_reducible exact LeO.refl _)
      | (with_reducible exact LeO.none _)
      | (with_reducible refine LeO.ite ?_ ?_)
      | (with_reducible refine LeO.bind ?_ (fun _ => ?_))
      | exact ih0 _ _ _
      | exact LeO.none _
      | refine LeO.ite ?_ ?_
      | refine LeO.bind ?_ (fun _ => ?_)
theorem spec_l00Has.mono : ∀ a0 a1 k, LeO (spec_l00Has.f k a0 a1) (spec_l00Has.f (k + 1) a0 a1) := by
  intro a0 a1 k
  have ih0 := spec_l00Has.mono_l k
  unfold spec_l00Has.f
  repeat' first
      | (with_reducible exact ih0 _ _ _)
      | (with_reducible exact LeO.refl _)
      | (with_reducible exact LeO.none _)
      | (with_reducible refine LeO.ite ?_ ?_)
      | (with_reducible refine LeO.bind ?_ (fun _ => ?_))
      | exact ih0 _ _ _
      | exact LeO.none _
      | refine LeO.ite ?_ ?_
      | refine LeO.bind ?_ (fun _ => ?_)
set_option maxHeartbeats 8000000 in
set_option maxRecDepth 100000 in
theorem spec_l00Has.calls (k : Nat) (A0 : Option Addr) (c0 : Nat) (l0 : List Int) (a1 : Int) (r : Bool) (w : World) (hr0 : Kd.C (Kd.int .i64) w A0 l0.length l0) (hc0 : l0.length ≤ c0) (h : spec_l00Has.f k l0 a1 = some r) :
    Calls Tryd.prog 19 #[.slice A0 l0.length c0, .int .i64 a1] w fun e w' => e = .returned (.bool r) ∧ Drawn0 w w' := by
  have HR0 := Aside0.mk hr0
  have HC0 := Aside0.mk hc0
  clear hr0 hc0
  have H : (spec_l00Has.l0 k l0 a1 0) = some r := h
  clear h
  have H' := Aside0.mk H
  clear H
  go_enter Tryd.func19, Tryd.ntmps19
  go_wp2
  go_loopg [5] k (fun kq v5 w' => ∃ (x5_1 : Int), v5 = .int .i64 x5_1 ∧ Aside0 (spec_l00Has.l0 kq l0 a1 x5_1 = some r) ∧ Aside0 (kq ≤ k) ∧ Drawn0 w w')
  case atStart => exact ⟨(0), (by first | rfl | (simp; done) | (simp [*]; done)), H', ⟨Nat.le_refl _⟩, by repeat (first | exact Drawn0.refl _ | apply Drawn0.step)⟩
  case round =>
    clear H'
    try clear c1
    try clear p2
    obtain ⟨x5_1, rfl, HA, HK1, ⟨m1, rfl⟩⟩ := hrel
    cases gk with
    | zero => exact absurd HA.out (by simp [spec_l00Has.l0])
    | succ k1 =>
      have H := HA.out
      clear HA
      simp only [spec_l00Has.l0] at H
      by_cases c3 : x5_1 < (l0.length : Int)
      · rw [if_pos c3] at H
        have c3b0 : decide (x5_1 < (l0.length : Int)) = true := decide_eq_true c3
        clear c3
        by_cases c4 : 0 ≤ x5_1
        · rw [if_pos c4] at H
          have c4b0 : decide (0 ≤ x5_1) = true := decide_eq_true c4
          clear c4
          by_cases c5 : (rd l0 x5_1) = a1
          · rw [if_pos c5] at H
            have c5b0 : ((rd l0 x5_1) == a1) = true := beq_iff_eq.mpr c5
            have c5b1 : ((rd l0 x5_1) != a1) = false := bne_eq_false_iff_eq.mpr c5
            clear c5
            obtain rfl := Option.some.inj H
            have p130 : 0 ≤ (x5_1 : Int) := of_decide_eq_true (by first | (with_reducible assumption) | assumption)
            have q130 : x5_1 < (l0.length : Int) := of_decide_eq_true (by first | (with_reducible assumption) | assumption)
            obtain ⟨ad130, e130, hx130_0⟩ := Kd.at_int HR0.out x5_1 p130 q130
            cases e130
            replace p130 := eq_true p130
            replace q130 := eq_true q130
            go_wp2
            go_ret
            exact ⟨by first | rfl | (simp; done) | (simp [*]; done), by repeat (first | exact Drawn0.refl _ | apply Drawn0.step)⟩
          · rw [if_neg c5] at H
            have c5b0 : ((rd l0 x5_1) == a1) = false := beq_eq_false_iff_ne.mpr c5
            have c5b1 : ((rd l0 x5_1) != a1) = true := bne_iff_ne.mpr c5
            have H' := Aside0.mk H
            clear H
            have p130 : 0 ≤ (x5_1 : Int) := of_decide_eq_true (by first | (with_reducible assumption) | assumption)
            have q130 : x5_1 < (l0.length : Int) := of_decide_eq_true (by first | (with_reducible assumption) | assumption)
            obtain ⟨ad130, e130, hx130_0⟩ := Kd.at_int HR0.out x5_1 p130 q130
            cases e130
            replace p130 := eq_true p130
            replace q130 := eq_true q130
            go_wp2
            go_roundg k1
            case measure => have := HK1.out; omega
            case rel => exact ⟨(wrap64 (x5_1 + 1)), (by first | rfl | (simp; done) | (simp [*]; done)), H', ⟨by have := HK1.out; omega⟩, by repeat (first | exact Drawn0.refl _ | apply Drawn0.step)⟩
        · rw [if_neg c4] at H
          exact absurd H (by simp)
      · rw [if_neg c3] at H
        have c3b0 : decide (x5_1 < (l0.length : Int)) = false := decide_eq_false c3
        clear c3
        obtain rfl := Option.some.inj H
        go_wp2
        go_ret
        exact ⟨by first | rfl | (simp; done) | (simp [*]; done), by repeat (first | exact Drawn0.refl _ | apply Drawn0.step)⟩
theorem spec_l00Has.l0_any (l : List Int) (x : Int) (hl : l.length ≤ 140737488351232) : ∀ (d i : Nat), i + d = l.length → Ev (fun k => spec_l00Has.l0 k l x (i : Int)) (decide (x ∈ l.drop i))
  | 0, i, h => by
    refine Ev.step (f := fun _ => some _) (fun k => ?_) (Ev.now _)
    simp only [spec_l00Has.l0]
    rw [if_neg (by omega), List.drop_eq_nil_of_le (by omega)]
    simp
  | d + 1, i, h => by
    have hlt : i < l.length := by omega
    rw [drop_at _ i hlt]
    by_cases e : l[i] = x
    · refine Ev.step (f := fun _ => some _) (fun k => ?_) (Ev.now _)
      simp only [spec_l00Has.l0]
      rw [if_pos (by omega), if_pos (by omega), rd_at _ _ hlt, if_pos e, decide_eq_true (by rw [e]; exact List.mem_cons_self)]
    · refine Ev.step (f := fun k => spec_l00Has.l0 k l x ((i + 1 : Nat) : Int)) (fun k => ?_) ?_
      · simp only [spec_l00Has.l0]
        rw [if_pos (by omega), if_pos (by omega), rd_at _ _ hlt, if_neg e, wrap64_id (x := (i : Int) + 1) (by omega) (by omega)]
        rfl
      · have : decide (x ∈ l[i] :: l.drop (i + 1)) = decide (x ∈ l.drop (i + 1)) := by
          congr 1
          rw [List.mem_cons]
          exact propext ⟨fun h => h.elim (fun h => absurd h.symm e) id, .inr⟩
        rw [this]
        exact spec_l00Has.l0_any l x hl d (i + 1) (by omega)
theorem spec_l00Has.any (l : List Int) (x : Int) (hl : l.length ≤ 140737488351232) : Ev (fun k => spec_l00Has.f k l x) (decide (x ∈ l)) := spec_l00Has.l0_any l x hl l.length 0 (by omega)
end
section
/-! ### spec_FlipLoss: function 6 -/
mutual
def spec_FlipLoss.j0 : Nat → List ByteArray → List Int → Int → Bool → Option (Int × Int × Bool)
  | 0, _, _, _, _ => none
  | k + 1, x0, x1, x2, x32 => if x32 = true then (some (0, 0, false)) else (spec_FlipLoss.l0 k x0 x1 x2 (⟨#[]⟩ : ByteArray) 0)
def spec_FlipLoss.l0 : Nat → List ByteArray → List Int → Int → ByteArray → Int → Option (Int × Int × Bool)
  | 0, _, _, _, _, _ => none
  | k + 1, x0, x1, x2, x9, x10 => if x10 < (x1.length : Int) then (if 0 ≤ x10 then ((spec_l00In.f (rd x1 x10) 0 (wrap64 ((x0.length : Int) - 1))).bind fun t134 => (if t134 = true then (if 0 ≤ (rd x1 x10) then (if (rd x1 x10) < (x0.length : Int) then (if x9.size + (rdOf ByteArray.empty x0 (rd x1 x10)).size ≤ 9223372036854775807 then (spec_FlipLoss.l0 k x0 x1 x2 (x9 ++ (rdOf ByteArray.empty x0 (rd x1 x10))) (wrap64 (x10 + 1))) else (none)) else (none)) else (none)) else (some (0, 0, false)))) else (none)) else (if (x9.size : Int) > 400 then (spec_FlipLoss.j2 k x0 x2 x9 true) else ((spec_l00In.f x2 0 (wrap64 ((x9.size : Int) - 1))).bind fun t137 => (spec_FlipLoss.j2 k x0 x2 x9 (!t137))))
def spec_FlipLoss.j2 : Nat → List ByteArray → Int → ByteArray → Bool → Option (Int × Int × Bool)
  | 0, _, _, _, _ => none
  | k + 1, x0, x2, x9, x67 => if x67 = true then (some (0, 0, false)) else ((spec_l05Ends.f k x0 x9).bind fun t138 => (if 0 ≤ x2 then (if x2 ≤ (x9.size : Int) then (if x2 ≤ (wrap64 (x2 + 1)) then (if (wrap64 (x2 + 1)) ≤ (x9.size : Int) then ((spec_l03Other.f k (x9.extract (x2 : Int).toNat ((wrap64 (x2 + 1)) : Int).toNat)).bind fun t141 => (if (x9.extract 0 (x2 : Int).toNat).size + t141.size ≤ 9223372036854775807 then (if 0 ≤ (wrap64 (x2 + 1)) then (if ((x9.extract 0 (x2 : Int).toNat) ++ t141).size + (x9.extract ((wrap64 (x2 + 1)) : Int).toNat x9.size).size ≤ 9223372036854775807 then ((spec_l05Ends.f k x0 (((x9.extract 0 (x2 : Int).toNat) ++ t141) ++ (x9.extract ((wrap64 (x2 + 1)) : Int).toNat x9.size))).bind fun t142 => (spec_FlipLoss.l1 k x2 t138 t142 0 0)) else (none)) else (none)) else (none))) else (none)) else (none)) else (none)) else (none)))
def spec_FlipLoss.l1 : Nat → Int → List Int → List Int → Int → Int → Option (Int × Int × Bool)
  | 0, _, _, _, _, _ => none
  | k + 1, x2, x11, x12, x13, x14 => if x14 < (x11.length : Int) then (if 0 ≤ x14 then (if (rd x11 x14) ≤ x2 then (spec_FlipLoss.l1 k x2 x11 x12 x13 (wrap64 (x14 + 1))) else ((spec_l00Has.f k x12 (rd x11 x14)).bind fun t147 => (if t147 = true then (some (wrap64 (x13 + 1), rd x11 x14, true)) else (spec_FlipLoss.l1 k x2 x11 x12 (wrap64 (x13 + 1)) (wrap64 (x14 + 1)))))) else (none)) else (some (0, 0, false))
end
def spec_FlipLoss.f (k : Nat) (l0 : List ByteArray) (l1 : List Int) (a2 : Int) : Option (Int × Int × Bool) := (spec_l05Is.f k l0).bind fun t131 => (if t131 = true then (if (l0.length : Int) < 2 then (spec_FlipLoss.j0 k l0 l1 a2 true) else ((spec_l05Complete.f k l0).bind fun t132 => (if t132 = true then (spec_FlipLoss.j0 k l0 l1 a2 (decide ((l1.length : Int) > 400))) else (spec_FlipLoss.j0 k l0 l1 a2 true)))) else (spec_FlipLoss.j0 k l0 l1 a2 true))
theorem spec_FlipLoss.mono_l : ∀ k, (∀ y0 y1 y2 y3, LeO (spec_FlipLoss.j0 k y0 y1 y2 y3) (spec_FlipLoss.j0 (k + 1) y0 y1 y2 y3)) ∧ (∀ y0 y1 y2 y3 y4, LeO (spec_FlipLoss.l0 k y0 y1 y2 y3 y4) (spec_FlipLoss.l0 (k + 1) y0 y1 y2 y3 y4)) ∧ (∀ y0 y1 y2 y3, LeO (spec_FlipLoss.j2 k y0 y1 y2 y3) (spec_FlipLoss.j2 (k + 1) y0 y1 y2 y3)) ∧ (∀ y0 y1 y2 y3 y4, LeO (spec_FlipLoss.l1 k y0 y1 y2 y3 y4) (spec_FlipLoss.l1 (k + 1) y0 y1 y2 y3 y4))
  | 0 => ⟨fun _ _ _ _ r h => by simp [spec_FlipLoss.j0] at h, fun _ _ _ _ _ r h => by simp [spec_FlipLoss.l0] at h, fun _ _ _ _ r h => by simp [spec_FlipLoss.j2] at h, fun _ _ _ _ _ r h => by simp [spec_FlipLoss.l1] at h⟩
  | k + 1 => by
    obtain ⟨ih0, ih1, ih2, ih3⟩ := spec_FlipLoss.mono_l k
    refine ⟨?_, ?_, ?_, ?_⟩
    · intro y0 y1 y2 y3
      unfold spec_FlipLoss.j0
      repeat' first
      | (with_reducible exact ih0 _ _ _ _)
      | (with_reducible exact ih1 _ _ _ _ _)
      | (with_reducible exact ih2 _ _ _ _)
      | (with_reducible exact ih3 _ _ _ _ _)
      | (with_reducible exact spec_l00Has.mono _ _ _)
      | (with_reducible exact spec_l03Other.mono _ _)
      | (with_reducible exact spec_l05Complete.mono _ _)
      | (with_reducible exact spec_l05Ends.mono _ _ _)
      | (with_reducible exact spec_l05Is.mono _ _)
      | (with_reducible exact LeO.refl _)
      | (with_reducible exact LeO.none _)
      | (with_reducible refine LeO.ite ?_ ?_)
      | (with_reducible refine LeO.bind ?_ (fun _ => ?_))
      | exact ih0 _ _ _ _
      | exact ih1 _ _ _ _ _
      | exact ih2 _ _ _ _
      | exact ih3 _ _ _ _ _
      | exact spec_l00Has.mono _ _ _
      | exact spec_l03Other.mono _ _
      | exact spec_l05Complete.mono _ _
      | exact spec_l05Ends.mono _ _ _
      | exact spec_l05Is.mono _ _
      | exact LeO.none _
      | refine LeO.ite ?_ ?_
      | refine LeO.bind ?_ (fun _ => ?_)
    · intro y0 y1 y2 y3 y4
      unfold spec_FlipLoss.l0
      repeat' first
      | (with_reducible exact ih0 _ _ _ _)
      | (with_reducible exact ih1 _ _ _ _ _)
      | (with_reducible exact ih2 _ _ _ _)
      | (with_reducible exact ih3 _ _ _ _ _)
      | (with_reducible exact spec_l00Has.mono _ _ _)
      | (with_reducible exact spec_l03Other.mono _ _)
      | (with_reducible exact spec_l05Complete.mono _ _)
      | (with_reducible exact spec_l05Ends.mono _ _ _)
      | (with_reducible exact spec_l05Is.mono _ _)
      | (with_reducible exact LeO.refl _)
      | (with_reducible exact LeO.none _)
      | (with_reducible refine LeO.ite ?_ ?_)
      | (with_reducible refine LeO.bind ?_ (fun _ => ?_))
      | exact ih0 _ _ _ _
      | exact ih1 _ _ _ _ _
      | exact ih2 _ _ _ _
      | exact ih3 _ _ _ _ _
      | exact spec_l00Has.mono _ _ _
      | exact spec_l03Other.mono _ _
      | exact spec_l05Complete.mono _ _
      | exact spec_l05Ends.mono _ _ _
      | exact spec_l05Is.mono _ _
      | exact LeO.none _
      | refine LeO.ite ?_ ?_
      | refine LeO.bind ?_ (fun _ => ?_)
    · intro y0 y1 y2 y3
      unfold spec_FlipLoss.j2
      repeat' first
      | (with_reducible exact ih0 _ _ _ _)
      | (with_reducible exact ih1 _ _ _ _ _)
      | (with_reducible exact ih2 _ _ _ _)
      | (with_reducible exact ih3 _ _ _ _ _)
      | (with_reducible exact spec_l00Has.mono _ _ _)
      | (with_reducible exact spec_l03Other.mono _ _)
      | (with_reducible exact spec_l05Complete.mono _ _)
      | (with_reducible exact spec_l05Ends.mono _ _ _)
      | (with_reducible exact spec_l05Is.mono _ _)
      | (with_reducible exact LeO.refl _)
      | (with_reducible exact LeO.none _)
      | (with_reducible refine LeO.ite ?_ ?_)
      | (with_reducible refine LeO.bind ?_ (fun _ => ?_))
      | exact ih0 _ _ _ _
      | exact ih1 _ _ _ _ _
      | exact ih2 _ _ _ _
      | exact ih3 _ _ _ _ _
      | exact spec_l00Has.mono _ _ _
      | exact spec_l03Other.mono _ _
      | exact spec_l05Complete.mono _ _
      | exact spec_l05Ends.mono _ _ _
      | exact spec_l05Is.mono _ _
      | exact LeO.none _
      | refine LeO.ite ?_ ?_
      | refine LeO.bind ?_ (fun _ => ?_)
    · intro y0 y1 y2 y3 y4
      unfold spec_FlipLoss.l1
      repeat' first
      | (with_reducible exact ih0 _ _ _ _)
      | (with_reducible exact ih1 _ _ _ _ _)
      | (with_reducible exact ih2 _ _ _ _)
      | (with_reducible exact ih3 _ _ _ _ _)
      | (with_reducible exact spec_l00Has.mono _ _ _)
      | (with_reducible exact spec_l03Other.mono _ _)
      | (with_reducible exact spec_l05Complete.mono _ _)
      | (with_reducible exact spec_l05Ends.mono _ _ _)
      | (with_reducible exact spec_l05Is.mono _ _)
      | (with_reducible exact LeO.refl _)
      | (with_reducible exact LeO.none _)
      | (with_reducible refine LeO.ite ?_ ?_)
      | (with_reducible refine LeO.bind ?_ (fun _ => ?_))
      | exact ih0 _ _ _ _
      | exact ih1 _ _ _ _ _
      | exact ih2 _ _ _ _
      | exact ih3 _ _ _ _ _
      | exact spec_l00Has.mono _ _ _
      | exact spec_l03Other.mono _ _
      | exact spec_l05Complete.mono _ _
      | exact spec_l05Ends.mono _ _ _
      | exact spec_l05Is.mono _ _
      | exact LeO.none _
      | refine LeO.ite ?_ ?_
      | refine LeO.bind ?_ (fun _ => ?_)
theorem spec_FlipLoss.mono : ∀ a0 a1 a2 k, LeO (spec_FlipLoss.f k a0 a1 a2) (spec_FlipLoss.f (k + 1) a0 a1 a2) := by
  intro a0 a1 a2 k
  obtain ⟨ih0, ih1, ih2, ih3⟩ := spec_FlipLoss.mono_l k
  unfold spec_FlipLoss.f
  repeat' first
      | (with_reducible exact ih0 _ _ _ _)
      | (with_reducible exact ih1 _ _ _ _ _)
      | (with_reducible exact ih2 _ _ _ _)
      | (with_reducible exact ih3 _ _ _ _ _)
      | (with_reducible exact spec_l00Has.mono _ _ _)
      | (with_reducible exact spec_l03Other.mono _ _)
      | (with_reducible exact spec_l05Complete.mono _ _)
      | (with_reducible exact spec_l05Ends.mono _ _ _)
      | (with_reducible exact spec_l05Is.mono _ _)
      | (with_reducible exact LeO.refl _)
      | (with_reducible exact LeO.none _)
      | (with_reducible refine LeO.ite ?_ ?_)
      | (with_reducible refine LeO.bind ?_ (fun _ => ?_))
      | exact ih0 _ _ _ _
      | exact ih1 _ _ _ _ _
      | exact ih2 _ _ _ _
      | exact ih3 _ _ _ _ _
      | exact spec_l00Has.mono _ _ _
      | exact spec_l03Other.mono _ _
      | exact spec_l05Complete.mono _ _
      | exact spec_l05Ends.mono _ _ _
      | exact spec_l05Is.mono _ _
      | exact LeO.none _
      | refine LeO.ite ?_ ?_
      | refine LeO.bind ?_ (fun _ => ?_)
def spec_FlipLoss.T13 : Bool × List (List Nat × List Nat) := (true, [([], []), ([], []), ([], []), ([1, 2], [1, 2]), ([], []), ([], []), ([], []), ([6], [6]), ([4, 5, 7], [4, 5, 7]), ([8], [8]), ([3, 9], [3, 9]), ([], []), ([], []), ([12], [12]), ([11, 13], [11, 13]), ([10, 14], [10, 14]), ([0, 15, 9], [0, 15]), ([16, 16, 0, 1, 2, 3, 4, 5, 6, 7, 8, 9, 10, 11, 12, 13, 14, 15, 16], [16])])
def spec_FlipLoss.B13 : List Nat := [0, 0, 0, 6, 0, 0, 0, 64, 240, 496, 1022, 0, 0, 4096, 14336, 32766, 65535, 131071]
theorem spec_FlipLoss.tab13 : rtab .any (opsOf Tryd.f6 13) = spec_FlipLoss.T13 := by kernel_rfl
theorem spec_FlipLoss.bits13 : waitsOk spec_FlipLoss.T13.2 spec_FlipLoss.B13 = true := by kernel_rfl
def spec_FlipLoss.T21 : Bool × List (List Nat × List Nat) := (true, [([], []), ([], []), ([], []), ([1, 2], [1, 2]), ([3], [3]), ([0, 0], [0]), ([4, 5, 0, 1, 2, 3, 4, 5], [4]), ([6, 0, 1, 2, 3, 4, 5, 6], [])])
def spec_FlipLoss.B21 : List Nat := [0, 0, 0, 6, 14, 1, 63, 127]
theorem spec_FlipLoss.tab21 : rtab .any (opsOf Tryd.f6 21) = spec_FlipLoss.T21 := by kernel_rfl
theorem spec_FlipLoss.bits21 : waitsOk spec_FlipLoss.T21.2 spec_FlipLoss.B21 = true := by kernel_rfl
set_option maxHeartbeats 8000000 in
set_option maxRecDepth 100000 in
theorem spec_FlipLoss.calls (k : Nat) (A0 : Option Addr) (c0 : Nat) (l0 : List ByteArray) (A1 : Option Addr) (c1 : Nat) (l1 : List Int) (a2 : Int) (r1 : Int) (r2 : Int) (r3 : Bool) (w : World) (hr0 : Kd.C Kd.string w A0 l0.length l0) (hc0 : l0.length ≤ c0) (hr1 : Kd.C (Kd.int .i64) w A1 l1.length l1) (hc1 : l1.length ≤ c1) (h : spec_FlipLoss.f k l0 l1 a2 = some (r1, r2, r3)) :
    Calls Tryd.prog 6 #[.slice A0 l0.length c0, .slice A1 l1.length c1, .int .i64 a2] w fun e w' => e = .returned (.tuple #[.int .i64 r1, .int .i64 r2, .bool r3]) ∧ Below w.heap.size w w' := by
  have HR0 := Aside0.mk hr0
  have HC0 := Aside0.mk hc0
  clear hr0 hc0
  have HR1 := Aside0.mk hr1
  have HC1 := Aside0.mk hc1
  clear hr1 hc1
  have HB := Aside0.mk (Below.refl w.heap.size w)
  have H : ((spec_l05Is.f k l0).bind fun t131 => (if t131 = true then (if (l0.length : Int) < 2 then (spec_FlipLoss.j0 k l0 l1 a2 true) else ((spec_l05Complete.f k l0).bind fun t132 => (if t132 = true then (spec_FlipLoss.j0 k l0 l1 a2 (decide ((l1.length : Int) > 400))) else (spec_FlipLoss.j0 k l0 l1 a2 true)))) else (spec_FlipLoss.j0 k l0 l1 a2 true))) = some (r1, r2, r3) := h
  clear h
  have HC4 := Aside0.mk H
  clear H
  go_enter Tryd.func6, Tryd.ntmps6
  go_upto_region 1 with (fail)
  go_cut [32] (fun v32 wc => ∃ (kq : Nat) (x32_3 : Bool), v32 = .bool x32_3 ∧ Aside0 (spec_FlipLoss.j0 kq l0 l1 a2 x32_3 = some (r1, r2, r3)) ∧ Aside0 (kq ≤ k) ∧ Aside0 (Below w.heap.size w wc))
  case first =>
    have H := HC4.out
    clear HC4
    replace H := Option.bind_eq_some_iff.mp H
    obtain ⟨t131, A50, H⟩ := H
    replace H : (if t131 = true then (if (l0.length : Int) < 2 then (spec_FlipLoss.j0 k l0 l1 a2 true) else ((spec_l05Complete.f k l0).bind fun t132 => (if t132 = true then (spec_FlipLoss.j0 k l0 l1 a2 (decide ((l1.length : Int) > 400))) else (spec_FlipLoss.j0 k l0 l1 a2 true)))) else (spec_FlipLoss.j0 k l0 l1 a2 true)) = some (r1, r2, r3) := H
    have A5 := Aside0.mk A50
    clear A50
    by_cases c6 : t131 = true
    · subst c6
      have H1 : (if (l0.length : Int) < 2 then (spec_FlipLoss.j0 k l0 l1 a2 true) else ((spec_l05Complete.f k l0).bind fun t132 => (if t132 = true then (spec_FlipLoss.j0 k l0 l1 a2 (decide ((l1.length : Int) > 400))) else (spec_FlipLoss.j0 k l0 l1 a2 true)))) = some (r1, r2, r3) := by rw [if_pos rfl] at H; exact H
      clear H
      have H := H1
      clear H1
      by_cases c7 : (l0.length : Int) < 2
      · rw [if_pos c7] at H
        have c7b0 : decide ((l0.length : Int) < 2) = true := decide_eq_true c7
        have c7b1 : decide (l0.length < 2) = true := decide_eq_true (by omega)
        clear c7
        (first | rw [c7b0] | (simp only [i64_w, i32_w]; rw [c7b0]) | skip)
        have H' := Aside0.mk H
        clear H
        go_wp2_with (first | ((with_reducible refine gate_callee (f := 14) rfl ?_); refine goesL_ (some 16) rfl rfl Tryd.func14 (by kernel_rfl) rfl #[.slice A0 l0.length c0] rfl (by (try simp only [List.map_toArray, List.map_cons, List.map_nil]); first | done | rfl | (simp only [List.length_drop, List.length_take]; rfl)) ?_; (with_reducible refine (spec_l05Is.calls k _ _ l0 true _ ?side1 ?side2 A5.out).mono ?_); (case side1 => repeat (first | exact (Kd.C_below HR0.out HB.out) | (with_reducible refine Kd.C_alloc ?_ _) | (with_reducible refine Kd.C_drewN ?_ _) | (with_reducible refine Kd.C_drew ?_))); (case side2 => exact HC0.out); rintro e w8 ⟨rfl, hb⟩; refine ⟨_, rfl, ?_⟩; have n0_ := Aside0.mk (below_step (by repeat (first | (with_reducible first | exact HB.out | apply below_alloc | apply pw_below_drewN | apply below_drew1) | exact HB.out)) hb); clear HB; have HB := n0_; clear n0_; (try clear hb); (try clear hb2); (try clear hk); (try clear hi)))
        go_meet
        case rel => exact ⟨_, (true), (by first | rfl | (simp; done) | (simp [*]; done)), H', ⟨by first | omega | exact Nat.le_refl _⟩, ⟨by repeat (first | (with_reducible first | exact HB.out | apply below_alloc | apply pw_below_drewN | apply below_drew1) | exact HB.out)⟩⟩
      · rw [if_neg c7] at H
        have c7b0 : decide ((l0.length : Int) < 2) = false := decide_eq_false c7
        have c7b1 : decide (l0.length < 2) = false := decide_eq_false (by omega)
        clear c7
        (first | rw [c7b0] | (simp only [i64_w, i32_w]; rw [c7b0]) | skip)
        replace H := Option.bind_eq_some_iff.mp H
        obtain ⟨t132, A90, H⟩ := H
        replace H : (if t132 = true then (spec_FlipLoss.j0 k l0 l1 a2 (decide ((l1.length : Int) > 400))) else (spec_FlipLoss.j0 k l0 l1 a2 true)) = some (r1, r2, r3) := H
        have A9 := Aside0.mk A90
        clear A90
        by_cases c10 : t132 = true
        · subst c10
          have H1 : (spec_FlipLoss.j0 k l0 l1 a2 (decide ((l1.length : Int) > 400))) = some (r1, r2, r3) := by rw [if_pos rfl] at H; exact H
          clear H
          have H := H1
          clear H1
          have H' := Aside0.mk H
          clear H
          go_wp2_with (first | ((with_reducible refine gate_callee (f := 14) rfl ?_); refine goesL_ (some 16) rfl rfl Tryd.func14 (by kernel_rfl) rfl #[.slice A0 l0.length c0] rfl (by (try simp only [List.map_toArray, List.map_cons, List.map_nil]); first | done | rfl | (simp only [List.length_drop, List.length_take]; rfl)) ?_; (with_reducible refine (spec_l05Is.calls k _ _ l0 true _ ?side1 ?side2 A5.out).mono ?_); (case side1 => repeat (first | exact (Kd.C_below HR0.out HB.out) | (with_reducible refine Kd.C_alloc ?_ _) | (with_reducible refine Kd.C_drewN ?_ _) | (with_reducible refine Kd.C_drew ?_))); (case side2 => exact HC0.out); rintro e w11 ⟨rfl, hb⟩; refine ⟨_, rfl, ?_⟩; have n0_ := Aside0.mk (below_step (by repeat (first | (with_reducible first | exact HB.out | apply below_alloc | apply pw_below_drewN | apply below_drew1) | exact HB.out)) hb); clear HB; have HB := n0_; clear n0_; (try clear hb); (try clear hb2); (try clear hk); (try clear hi)) | (go_at_call 15; (with_reducible refine (spec_l05Complete.calls k _ _ l0 true _ ?side1 ?side2 A9.out).mono ?_); (case side1 => repeat (first | exact (Kd.C_below HR0.out HB.out) | (with_reducible refine Kd.C_alloc ?_ _) | (with_reducible refine Kd.C_drewN ?_ _) | (with_reducible refine Kd.C_drew ?_))); (case side2 => exact HC0.out); rintro e w' ⟨rfl, ⟨nd, rfl⟩⟩))
          go_meet
          case rel => exact ⟨_, (decide ((l1.length : Int) > 400)), (by first | rfl | (simp; done) | (simp [*]; done)), H', ⟨by first | omega | exact Nat.le_refl _⟩, ⟨by repeat (first | (with_reducible first | exact HB.out | apply below_alloc | apply pw_below_drewN | apply below_drew1) | exact HB.out)⟩⟩
        · replace c10 := Bool.eq_false_iff.mpr c10
          subst c10
          have H1 : (spec_FlipLoss.j0 k l0 l1 a2 true) = some (r1, r2, r3) := by rw [if_neg (show ¬ (false = true) by decide)] at H; exact H
          clear H
          have H := H1
          clear H1
          have H' := Aside0.mk H
          clear H
          go_wp2_with (first | ((with_reducible refine gate_callee (f := 14) rfl ?_); refine goesL_ (some 16) rfl rfl Tryd.func14 (by kernel_rfl) rfl #[.slice A0 l0.length c0] rfl (by (try simp only [List.map_toArray, List.map_cons, List.map_nil]); first | done | rfl | (simp only [List.length_drop, List.length_take]; rfl)) ?_; (with_reducible refine (spec_l05Is.calls k _ _ l0 true _ ?side1 ?side2 A5.out).mono ?_); (case side1 => repeat (first | exact (Kd.C_below HR0.out HB.out) | (with_reducible refine Kd.C_alloc ?_ _) | (with_reducible refine Kd.C_drewN ?_ _) | (with_reducible refine Kd.C_drew ?_))); (case side2 => exact HC0.out); rintro e w12 ⟨rfl, hb⟩; refine ⟨_, rfl, ?_⟩; have n0_ := Aside0.mk (below_step (by repeat (first | (with_reducible first | exact HB.out | apply below_alloc | apply pw_below_drewN | apply below_drew1) | exact HB.out)) hb); clear HB; have HB := n0_; clear n0_; (try clear hb); (try clear hb2); (try clear hk); (try clear hi)) | (go_at_call 15; (with_reducible refine (spec_l05Complete.calls k _ _ l0 false _ ?side1 ?side2 A9.out).mono ?_); (case side1 => repeat (first | exact (Kd.C_below HR0.out HB.out) | (with_reducible refine Kd.C_alloc ?_ _) | (with_reducible refine Kd.C_drewN ?_ _) | (with_reducible refine Kd.C_drew ?_))); (case side2 => exact HC0.out); rintro e w' ⟨rfl, ⟨nd, rfl⟩⟩))
          go_meet
          case rel => exact ⟨_, (true), (by first | rfl | (simp; done) | (simp [*]; done)), H', ⟨by first | omega | exact Nat.le_refl _⟩, ⟨by repeat (first | (with_reducible first | exact HB.out | apply below_alloc | apply pw_below_drewN | apply below_drew1) | exact HB.out)⟩⟩
    · replace c6 := Bool.eq_false_iff.mpr c6
      subst c6
      have H1 : (spec_FlipLoss.j0 k l0 l1 a2 true) = some (r1, r2, r3) := by rw [if_neg (show ¬ (false = true) by decide)] at H; exact H
      clear H
      have H := H1
      clear H1
      have H' := Aside0.mk H
      clear H
      go_wp2_with (first | ((with_reducible refine gate_callee (f := 14) rfl ?_); refine goesL_ (some 16) rfl rfl Tryd.func14 (by kernel_rfl) rfl #[.slice A0 l0.length c0] rfl (by (try simp only [List.map_toArray, List.map_cons, List.map_nil]); first | done | rfl | (simp only [List.length_drop, List.length_take]; rfl)) ?_; (with_reducible refine (spec_l05Is.calls k _ _ l0 false _ ?side1 ?side2 A5.out).mono ?_); (case side1 => repeat (first | exact (Kd.C_below HR0.out HB.out) | (with_reducible refine Kd.C_alloc ?_ _) | (with_reducible refine Kd.C_drewN ?_ _) | (with_reducible refine Kd.C_drew ?_))); (case side2 => exact HC0.out); rintro e w13 ⟨rfl, hb⟩; refine ⟨_, rfl, ?_⟩; have n0_ := Aside0.mk (below_step (by repeat (first | (with_reducible first | exact HB.out | apply below_alloc | apply pw_below_drewN | apply below_drew1) | exact HB.out)) hb); clear HB; have HB := n0_; clear n0_; (try clear hb); (try clear hb2); (try clear hk); (try clear hi)))
      go_meet
      case rel => exact ⟨_, (true), (by first | rfl | (simp; done) | (simp [*]; done)), H', ⟨by first | omega | exact Nat.le_refl _⟩, ⟨by repeat (first | (with_reducible first | exact HB.out | apply below_alloc | apply pw_below_drewN | apply below_drew1) | exact HB.out)⟩⟩
  case rest =>
    clear HC4
    try clear c1
    try clear p2
    try clear c6
    try clear c7
    try clear c7b0
    try clear c7b1
    try clear c10
    obtain ⟨kq, x32_3, rfl, HA, HJ3, HB⟩ := hcut
    cases kq with
    | zero => exact absurd HA.out (by simp [spec_FlipLoss.j0])
    | succ kj3 =>
      have H := HA.out
      clear HA
      simp only [spec_FlipLoss.j0] at H
      by_cases c14 : x32_3 = true
      · subst c14
        have H1 : (some (0, 0, false)) = some (r1, r2, r3) := by rw [if_pos rfl] at H; exact H
        clear H
        have H := H1
        clear H1
        simp only [Option.some.injEq, Prod.mk.injEq] at H
        obtain ⟨rfl, rfl, rfl⟩ := H
        go_wp2
        go_ret3
        exact ⟨by first | rfl | (simp [errW_none, errW_some] <;> rfl) | (simp [*, errW_none, errW_some] <;> rfl), by repeat (first | (with_reducible first | exact HB.out | apply below_alloc | apply pw_below_drewN | apply below_drew1) | exact HB.out)⟩
      · replace c14 := Bool.eq_false_iff.mpr c14
        subst c14
        have H1 : (spec_FlipLoss.l0 kj3 l0 l1 a2 (⟨#[]⟩ : ByteArray) 0) = some (r1, r2, r3) := by rw [if_neg (show ¬ (false = true) by decide)] at H; exact H
        clear H
        have H := H1
        clear H1
        have H' := Aside0.mk H
        clear H
        go_wp2
        go_loopg [9, 10] kj3 (fun kq v9 v10 w' => ∃ (x9_2 : ByteArray) (x10_2 : Int), v9 = .string x9_2 ∧ v10 = .int .i64 x10_2 ∧ Aside0 (spec_FlipLoss.l0 kq l0 l1 a2 x9_2 x10_2 = some (r1, r2, r3)) ∧ Aside0 (kq ≤ kj3) ∧ Aside0 (Below w.heap.size w w'))
        case atStart => exact ⟨((⟨#[]⟩ : ByteArray)), (0), (by first | rfl | (simp; done) | (simp [*]; done)), (by first | rfl | (simp; done) | (simp [*]; done)), H', ⟨Nat.le_refl _⟩, ⟨by repeat (first | (with_reducible first | exact HB.out | apply below_alloc | apply pw_below_drewN | apply below_drew1) | exact HB.out)⟩⟩
        case round =>
          clear H'
          try clear c1
          try clear p2
          try clear c6
          try clear c7
          try clear c7b0
          try clear c7b1
          try clear c10
          try clear c14
          try clear p2
          obtain ⟨x9_2, x10_2, rfl, rfl, HA, HK2, HB⟩ := hrel
          cases gk with
          | zero => exact absurd HA.out (by simp [spec_FlipLoss.l0])
          | succ k2 =>
            have H := HA.out
            clear HA
            simp only [spec_FlipLoss.l0] at H
            by_cases c15 : x10_2 < (l1.length : Int)
            · rw [if_pos c15] at H
              have c15b0 : decide (x10_2 < (l1.length : Int)) = true := decide_eq_true c15
              clear c15
              by_cases c16 : 0 ≤ x10_2
              · rw [if_pos c16] at H
                have c16b0 : decide (0 ≤ x10_2) = true := decide_eq_true c16
                clear c16
                replace H := Option.bind_eq_some_iff.mp H
                obtain ⟨t134, A170, H⟩ := H
                replace H : (if t134 = true then (if 0 ≤ (rd l1 x10_2) then (if (rd l1 x10_2) < (l0.length : Int) then (if x9_2.size + (rdOf ByteArray.empty l0 (rd l1 x10_2)).size ≤ 9223372036854775807 then (spec_FlipLoss.l0 k2 l0 l1 a2 (x9_2 ++ (rdOf ByteArray.empty l0 (rd l1 x10_2))) (wrap64 (x10_2 + 1))) else (none)) else (none)) else (none)) else (some (0, 0, false))) = some (r1, r2, r3) := H
                have A17 := Aside0.mk A170
                clear A170
                by_cases c18 : t134 = true
                · subst c18
                  have H1 : (if 0 ≤ (rd l1 x10_2) then (if (rd l1 x10_2) < (l0.length : Int) then (if x9_2.size + (rdOf ByteArray.empty l0 (rd l1 x10_2)).size ≤ 9223372036854775807 then (spec_FlipLoss.l0 k2 l0 l1 a2 (x9_2 ++ (rdOf ByteArray.empty l0 (rd l1 x10_2))) (wrap64 (x10_2 + 1))) else (none)) else (none)) else (none)) = some (r1, r2, r3) := by rw [if_pos rfl] at H; exact H
                  clear H
                  have H := H1
                  clear H1
                  by_cases c19 : 0 ≤ (rd l1 x10_2)
                  · rw [if_pos c19] at H
                    have c19b0 : decide (0 ≤ (rd l1 x10_2)) = true := decide_eq_true c19
                    clear c19
                    by_cases c20 : (rd l1 x10_2) < (l0.length : Int)
                    · rw [if_pos c20] at H
                      have c20b0 : decide ((rd l1 x10_2) < (l0.length : Int)) = true := decide_eq_true c20
                      clear c20
                      by_cases c21 : x9_2.size + (rdOf ByteArray.empty l0 (rd l1 x10_2)).size ≤ 9223372036854775807
                      · rw [if_pos c21] at H
                        have c21b0 := eq_true c21
                        have c21b1 : decide (x9_2.size + (rdOf ByteArray.empty l0 (rd l1 x10_2)).size ≤ 9223372036854775807) = true := decide_eq_true c21
                        try have c21b2 : (9223372036854775807 < x9_2.size + (rdOf ByteArray.empty l0 (rd l1 x10_2)).size) = False := eq_false (Nat.not_lt.2 c21)
                        have H' := Aside0.mk H
                        clear H
                        have p133 : 0 ≤ (x10_2 : Int) := of_decide_eq_true (by first | (with_reducible assumption) | assumption)
                        have q133 : x10_2 < (l1.length : Int) := of_decide_eq_true (by first | (with_reducible assumption) | assumption)
                        obtain ⟨ad133, e133, hx133_0⟩ := Kd.at_int HR1.out x10_2 p133 q133
                        cases e133
                        replace hx133_0 := (HB.out.cell (World.block_lt_of_cell? w _ hx133_0)).trans hx133_0
                        replace p133 := eq_true p133
                        replace q133 := eq_true q133
                        go_wp2_with (first | ((with_reducible refine gate_callee (f := 16) rfl ?_); refine goesL_ (some 46) rfl rfl Tryd.func16 (by kernel_rfl) rfl #[.int .i64 (rd l1 x10_2), .int .i64 0, .int .i64 (wrap64 ((l0.length : Int) - 1))] rfl (by (try simp only [List.map_toArray, List.map_cons, List.map_nil]); first | done | rfl | (simp only [List.length_drop, List.length_take]; rfl)) ?_; (with_reducible refine (spec_l00In.calls (rd l1 x10_2) 0 (wrap64 ((l0.length : Int) - 1)) true _ A17.out).mono ?_); rintro e w' ⟨rfl, ⟨nd, rfl⟩⟩; refine ⟨_, rfl, ?_⟩; have p135 : 0 ≤ (x10_2 : Int) := of_decide_eq_true (by first | (with_reducible assumption) | assumption); have q135 : x10_2 < (l1.length : Int) := of_decide_eq_true (by first | (with_reducible assumption) | assumption); obtain ⟨ad135, e135, hx135_0⟩ := Kd.at_int HR1.out x10_2 p135 q135; obtain rfl : ad133 = ad135 := (by injection e135); replace hx135_0 := (HB.out.cell (World.block_lt_of_cell? w _ hx135_0)).trans hx135_0; replace p135 := eq_true p135; replace q135 := eq_true q135; have p136 : 0 ≤ ((rd l1 x10_2) : Int) := of_decide_eq_true (by first | (with_reducible assumption) | assumption); have q136 : (rd l1 x10_2) < (l0.length : Int) := of_decide_eq_true (by first | (with_reducible assumption) | assumption); obtain ⟨ad136, e136, hx136_0⟩ := Kd.at_string HR0.out (rd l1 x10_2) p136 q136; cases e136; replace hx136_0 := (HB.out.cell (World.block_lt_of_cell? w _ hx136_0)).trans hx136_0; replace p136 := eq_true p136; replace q136 := eq_true q136))
                        go_roundg k2
                        case measure => have := HJ3.out; have := HK2.out; omega
                        case rel => exact ⟨(x9_2 ++ (rdOf ByteArray.empty l0 (rd l1 x10_2))), (wrap64 (x10_2 + 1)), (by first | rfl | (simp; done) | (simp [*]; done)), (by first | rfl | (simp; done) | (simp [*]; done)), H', ⟨by have := HJ3.out; have := HK2.out; omega⟩, ⟨by repeat (first | (with_reducible first | exact HB.out | apply below_alloc | apply pw_below_drewN | apply below_drew1) | exact HB.out)⟩⟩
                      · rw [if_neg c21] at H
                        exact absurd H (by simp)
                    · rw [if_neg c20] at H
                      exact absurd H (by simp)
                  · rw [if_neg c19] at H
                    exact absurd H (by simp)
                · replace c18 := Bool.eq_false_iff.mpr c18
                  subst c18
                  have H1 : (some (0, 0, false)) = some (r1, r2, r3) := by rw [if_neg (show ¬ (false = true) by decide)] at H; exact H
                  clear H
                  have H := H1
                  clear H1
                  simp only [Option.some.injEq, Prod.mk.injEq] at H
                  obtain ⟨rfl, rfl, rfl⟩ := H
                  have p133 : 0 ≤ (x10_2 : Int) := of_decide_eq_true (by first | (with_reducible assumption) | assumption)
                  have q133 : x10_2 < (l1.length : Int) := of_decide_eq_true (by first | (with_reducible assumption) | assumption)
                  obtain ⟨ad133, e133, hx133_0⟩ := Kd.at_int HR1.out x10_2 p133 q133
                  cases e133
                  replace hx133_0 := (HB.out.cell (World.block_lt_of_cell? w _ hx133_0)).trans hx133_0
                  replace p133 := eq_true p133
                  replace q133 := eq_true q133
                  go_wp2_with (first | ((with_reducible refine gate_callee (f := 16) rfl ?_); refine goesL_ (some 46) rfl rfl Tryd.func16 (by kernel_rfl) rfl #[.int .i64 (rd l1 x10_2), .int .i64 0, .int .i64 (wrap64 ((l0.length : Int) - 1))] rfl (by (try simp only [List.map_toArray, List.map_cons, List.map_nil]); first | done | rfl | (simp only [List.length_drop, List.length_take]; rfl)) ?_; (with_reducible refine (spec_l00In.calls (rd l1 x10_2) 0 (wrap64 ((l0.length : Int) - 1)) false _ A17.out).mono ?_); rintro e w' ⟨rfl, ⟨nd, rfl⟩⟩; refine ⟨_, rfl, ?_⟩))
                  go_ret3
                  exact ⟨by first | rfl | (simp [errW_none, errW_some] <;> rfl) | (simp [*, errW_none, errW_some] <;> rfl), by repeat (first | (with_reducible first | exact HB.out | apply below_alloc | apply pw_below_drewN | apply below_drew1) | exact HB.out)⟩
              · rw [if_neg c16] at H
                exact absurd H (by simp)
            · rw [if_neg c15] at H
              have c15b0 : decide (x10_2 < (l1.length : Int)) = false := decide_eq_false c15
              clear c15
              have HC22 := Aside0.mk H
              clear H
              go_upto_region 10 with (fail)
              go_cut [67] (fun v67 wc => ∃ (kq : Nat) (x67_21 : Bool), v67 = .bool x67_21 ∧ Aside0 (spec_FlipLoss.j2 kq l0 a2 x9_2 x67_21 = some (r1, r2, r3)) ∧ Aside0 (kq ≤ k2) ∧ Aside0 (Below w.heap.size w wc))
              case first =>
                have H := HC22.out
                clear HC22
                by_cases c23 : (x9_2.size : Int) > 400
                · rw [if_pos c23] at H
                  have c23b0 : decide (400 < (x9_2.size : Int)) = true := decide_eq_true c23
                  have c23b1 : decide (400 < x9_2.size) = true := decide_eq_true (by omega)
                  clear c23
                  (first | rw [c23b0] | (simp only [i64_w, i32_w]; rw [c23b0]) | skip)
                  have H' := Aside0.mk H
                  clear H
                  go_wp2
                  go_meet
                  case rel => exact ⟨_, (true), (by first | rfl | (simp; done) | (simp [*]; done)), H', ⟨by have := HJ3.out; have := HK2.out; first | omega | exact Nat.le_refl _⟩, ⟨by repeat (first | (with_reducible first | exact HB.out | apply below_alloc | apply pw_below_drewN | apply below_drew1) | exact HB.out)⟩⟩
                · rw [if_neg c23] at H
                  have c23b0 : decide (400 < (x9_2.size : Int)) = false := decide_eq_false c23
                  have c23b1 : decide (400 < x9_2.size) = false := decide_eq_false (by omega)
                  clear c23
                  (first | rw [c23b0] | (simp only [i64_w, i32_w]; rw [c23b0]) | skip)
                  replace H := Option.bind_eq_some_iff.mp H
                  obtain ⟨t137, A240, H⟩ := H
                  replace H : (spec_FlipLoss.j2 k2 l0 a2 x9_2 (!t137)) = some (r1, r2, r3) := H
                  have A24 := Aside0.mk A240
                  clear A240
                  have H' := Aside0.mk H
                  clear H
                  go_wp2_with (first | (go_at_call 16; (with_reducible refine (spec_l00In.calls a2 0 (wrap64 ((x9_2.size : Int) - 1)) t137 _ A24.out).mono ?_); rintro e w' ⟨rfl, ⟨nd, rfl⟩⟩))
                  go_meet
                  case rel => exact ⟨_, (!t137), (by first | rfl | (simp; done) | (simp [*]; done)), H', ⟨by have := HJ3.out; have := HK2.out; first | omega | exact Nat.le_refl _⟩, ⟨by repeat (first | (with_reducible first | exact HB.out | apply below_alloc | apply pw_below_drewN | apply below_drew1) | exact HB.out)⟩⟩
              case rest =>
                clear HC22
                try clear c1
                try clear p1
                try clear q1
                try clear hx1
                try clear c2
                try clear p2
                try clear c6
                try clear p6
                try clear c7
                try clear c7b0
                try clear c7b1
                try clear c10
                try clear p13
                try clear q13
                try clear hx13
                try clear c14
                try clear c15
                try clear c15b0
                try clear c16
                try clear c16b0
                try clear c18
                try clear c19
                try clear c19b0
                try clear c20
                try clear c20b0
                try clear c21
                try clear c21b0
                try clear c21b1
                try clear c21b2
                try clear c23
                try clear c23b0
                try clear c23b1
                try clear hx133_0
                try clear hx135_0
                try clear hx136_0
                try clear p133
                try clear p135
                try clear p136
                try clear p2
                try clear q133
                try clear q135
                try clear q136
                obtain ⟨kq, x67_21, rfl, HA, HJ21, HB⟩ := hcut
                cases kq with
                | zero => exact absurd HA.out (by simp [spec_FlipLoss.j2])
                | succ kj21 =>
                  have H := HA.out
                  clear HA
                  simp only [spec_FlipLoss.j2] at H
                  by_cases c25 : x67_21 = true
                  · subst c25
                    have H1 : (some (0, 0, false)) = some (r1, r2, r3) := by rw [if_pos rfl] at H; exact H
                    clear H
                    have H := H1
                    clear H1
                    simp only [Option.some.injEq, Prod.mk.injEq] at H
                    obtain ⟨rfl, rfl, rfl⟩ := H
                    go_wp2
                    go_ret3
                    exact ⟨by first | rfl | (simp [errW_none, errW_some] <;> rfl) | (simp [*, errW_none, errW_some] <;> rfl), by repeat (first | (with_reducible first | exact HB.out | apply below_alloc | apply pw_below_drewN | apply below_drew1) | exact HB.out)⟩
                  · replace c25 := Bool.eq_false_iff.mpr c25
                    subst c25
                    have H1 : ((spec_l05Ends.f kj21 l0 x9_2).bind fun t138 => (if 0 ≤ a2 then (if a2 ≤ (x9_2.size : Int) then (if a2 ≤ (wrap64 (a2 + 1)) then (if (wrap64 (a2 + 1)) ≤ (x9_2.size : Int) then ((spec_l03Other.f kj21 (x9_2.extract (a2 : Int).toNat ((wrap64 (a2 + 1)) : Int).toNat)).bind fun t141 => (if (x9_2.extract 0 (a2 : Int).toNat).size + t141.size ≤ 9223372036854775807 then (if 0 ≤ (wrap64 (a2 + 1)) then (if ((x9_2.extract 0 (a2 : Int).toNat) ++ t141).size + (x9_2.extract ((wrap64 (a2 + 1)) : Int).toNat x9_2.size).size ≤ 9223372036854775807 then ((spec_l05Ends.f kj21 l0 (((x9_2.extract 0 (a2 : Int).toNat) ++ t141) ++ (x9_2.extract ((wrap64 (a2 + 1)) : Int).toNat x9_2.size))).bind fun t142 => (spec_FlipLoss.l1 kj21 a2 t138 t142 0 0)) else (none)) else (none)) else (none))) else (none)) else (none)) else (none)) else (none))) = some (r1, r2, r3) := by rw [if_neg (show ¬ (false = true) by decide)] at H; exact H
                    clear H
                    have H := H1
                    clear H1
                    replace H := Option.bind_eq_some_iff.mp H
                    obtain ⟨t138, A260, H⟩ := H
                    replace H : (if 0 ≤ a2 then (if a2 ≤ (x9_2.size : Int) then (if a2 ≤ (wrap64 (a2 + 1)) then (if (wrap64 (a2 + 1)) ≤ (x9_2.size : Int) then ((spec_l03Other.f kj21 (x9_2.extract (a2 : Int).toNat ((wrap64 (a2 + 1)) : Int).toNat)).bind fun t141 => (if (x9_2.extract 0 (a2 : Int).toNat).size + t141.size ≤ 9223372036854775807 then (if 0 ≤ (wrap64 (a2 + 1)) then (if ((x9_2.extract 0 (a2 : Int).toNat) ++ t141).size + (x9_2.extract ((wrap64 (a2 + 1)) : Int).toNat x9_2.size).size ≤ 9223372036854775807 then ((spec_l05Ends.f kj21 l0 (((x9_2.extract 0 (a2 : Int).toNat) ++ t141) ++ (x9_2.extract ((wrap64 (a2 + 1)) : Int).toNat x9_2.size))).bind fun t142 => (spec_FlipLoss.l1 kj21 a2 t138 t142 0 0)) else (none)) else (none)) else (none))) else (none)) else (none)) else (none)) else (none)) = some (r1, r2, r3) := H
                    have A26 := Aside0.mk A260
                    clear A260
                    by_cases c27 : 0 ≤ a2
                    · rw [if_pos c27] at H
                      have c27b0 := eq_true c27
                      have c27b1 : decide (0 ≤ a2) = true := decide_eq_true c27
                      clear c27
                      by_cases c28 : a2 ≤ (x9_2.size : Int)
                      · rw [if_pos c28] at H
                        have c28b0 := eq_true c28
                        have c28b1 : decide (a2 ≤ (x9_2.size : Int)) = true := decide_eq_true c28
                        clear c28
                        have c29b0 := eq_true (of_decide_eq_true (by first | (with_reducible assumption) | assumption) : 0 ≤ a2)
                        by_cases c30 : a2 ≤ (wrap64 (a2 + 1))
                        · rw [if_pos c30] at H
                          have c30b0 := eq_true c30
                          have c30b1 : decide (a2 ≤ (wrap64 (a2 + 1))) = true := decide_eq_true c30
                          by_cases c31 : (wrap64 (a2 + 1)) ≤ (x9_2.size : Int)
                          · rw [if_pos c31] at H
                            have c31b0 := eq_true c31
                            have c31b1 : decide ((wrap64 (a2 + 1)) ≤ (x9_2.size : Int)) = true := decide_eq_true c31
                            replace H := Option.bind_eq_some_iff.mp H
                            obtain ⟨t141, A320, H⟩ := H
                            replace H : (if (x9_2.extract 0 (a2 : Int).toNat).size + t141.size ≤ 9223372036854775807 then (if 0 ≤ (wrap64 (a2 + 1)) then (if ((x9_2.extract 0 (a2 : Int).toNat) ++ t141).size + (x9_2.extract ((wrap64 (a2 + 1)) : Int).toNat x9_2.size).size ≤ 9223372036854775807 then ((spec_l05Ends.f kj21 l0 (((x9_2.extract 0 (a2 : Int).toNat) ++ t141) ++ (x9_2.extract ((wrap64 (a2 + 1)) : Int).toNat x9_2.size))).bind fun t142 => (spec_FlipLoss.l1 kj21 a2 t138 t142 0 0)) else (none)) else (none)) else (none)) = some (r1, r2, r3) := H
                            have A32 := Aside0.mk A320
                            clear A320
                            by_cases c33 : (x9_2.extract 0 (a2 : Int).toNat).size + t141.size ≤ 9223372036854775807
                            · rw [if_pos c33] at H
                              have c33b0 := eq_true c33
                              have c33b1 : decide ((x9_2.extract 0 (a2 : Int).toNat).size + t141.size ≤ 9223372036854775807) = true := decide_eq_true c33
                              try (have c33b3 : (9223372036854775807 < (x9_2.extract 0 (a2 : Int).toNat).size + t141.size) = False := eq_false (Nat.not_lt.2 c33); simp only [ByteArray.size_append, ByteArray.size_extract, Nat.min_self, Nat.sub_zero, Nat.min_eq_left, Int.toNat_le, *] at c33b3)
                              try have c33b2 : (9223372036854775807 < (x9_2.extract 0 (a2 : Int).toNat).size + t141.size) = False := eq_false (Nat.not_lt.2 c33)
                              obtain ⟨ji34, hji34⟩ : ∃ j_ : Int, (wrap64 (a2 + 1)) = j_ := ⟨_, rfl⟩
                              replace H : (if 0 ≤ (ji34) then (if ((x9_2.extract 0 (a2 : Int).toNat) ++ t141).size + (x9_2.extract ((ji34) : Int).toNat x9_2.size).size ≤ 9223372036854775807 then ((spec_l05Ends.f kj21 l0 (((x9_2.extract 0 (a2 : Int).toNat) ++ t141) ++ (x9_2.extract ((ji34) : Int).toNat x9_2.size))).bind fun t142 => (spec_FlipLoss.l1 kj21 a2 t138 t142 0 0)) else (none)) else (none)) = some (r1, r2, r3) := by first | (rw [hji34] at H; exact H) | (simp only [hji34] at H ⊢; exact H)
                              (try rw [hji34] at c30b0)
                              (try rw [hji34] at c30b1)
                              (try rw [hji34] at c30)
                              (try rw [hji34] at c31b0)
                              (try rw [hji34] at c31b1)
                              (try rw [hji34] at c31)
                              (try rw [hji34] at A26)
                              (try rw [hji34] at A32)
                              have hji34w : (IntKind.i64.wrap (a2 + 1)) = ji34 := (i64_w _).trans hji34
                              by_cases c35 : 0 ≤ (ji34)
                              · rw [if_pos c35] at H
                                have c35b0 := eq_true c35
                                have c35b1 : decide (0 ≤ (ji34)) = true := decide_eq_true c35
                                clear c35
                                have c36b0 := eq_true (of_decide_eq_true (by first | (with_reducible assumption) | assumption) : (ji34) ≤ (x9_2.size : Int))
                                by_cases c37 : ((x9_2.extract 0 (a2 : Int).toNat) ++ t141).size + (x9_2.extract ((ji34) : Int).toNat x9_2.size).size ≤ 9223372036854775807
                                · rw [if_pos c37] at H
                                  have c37b0 := eq_true c37
                                  have c37b1 : decide (((x9_2.extract 0 (a2 : Int).toNat) ++ t141).size + (x9_2.extract ((ji34) : Int).toNat x9_2.size).size ≤ 9223372036854775807) = true := decide_eq_true c37
                                  try (have c37b3 : (9223372036854775807 < ((x9_2.extract 0 (a2 : Int).toNat) ++ t141).size + (x9_2.extract ((ji34) : Int).toNat x9_2.size).size) = False := eq_false (Nat.not_lt.2 c37); simp only [ByteArray.size_append, ByteArray.size_extract, Nat.min_self, Nat.sub_zero, Nat.min_eq_left, Int.toNat_le, *] at c37b3)
                                  try have c37b2 : (9223372036854775807 < ((x9_2.extract 0 (a2 : Int).toNat) ++ t141).size + (x9_2.extract ((ji34) : Int).toNat x9_2.size).size) = False := eq_false (Nat.not_lt.2 c37)
                                  replace H := Option.bind_eq_some_iff.mp H
                                  obtain ⟨t142, A380, H⟩ := H
                                  replace H : (spec_FlipLoss.l1 kj21 a2 t138 t142 0 0) = some (r1, r2, r3) := H
                                  have A38 := Aside0.mk A380
                                  clear A380
                                  have H' := Aside0.mk H
                                  clear H
                                  try go_wp2_with (first | ((with_reducible refine gate_callee (f := 17) rfl ?_); refine goesL_ (some 70) rfl rfl Tryd.func17 (by kernel_rfl) rfl #[.slice A0 l0.length c0, .string x9_2] rfl (by (try simp only [List.map_toArray, List.map_cons, List.map_nil]); first | done | rfl | (simp only [List.length_drop, List.length_take]; rfl)) ?_; (with_reducible refine (spec_l05Ends.calls kj21 _ _ l0 x9_2 t138 _ ?side1 ?side2 A26.out).mono ?_); (case side1 => repeat (first | exact (Kd.C_below HR0.out HB.out) | (with_reducible refine Kd.C_alloc ?_ _) | (with_reducible refine Kd.C_drewN ?_ _) | (with_reducible refine Kd.C_drew ?_))); (case side2 => exact HC0.out); rintro e w39 ⟨v139, rfl, ho0, hb⟩; refine ⟨_, rfl, ?_⟩; have n0_ := Aside0.mk (Kd.R_lower ho0 (below_size (by repeat (first | (with_reducible first | exact HB.out | apply below_alloc | apply pw_below_drewN | apply below_drew1) | exact HB.out)))); have n1_ := Aside0.mk (below_step (by repeat (first | (with_reducible first | exact HB.out | apply below_alloc | apply pw_below_drewN | apply below_drew1) | exact HB.out)) hb); clear HB; have HO140 := n0_; have HB := n1_; clear n0_ n1_; (try clear hb); (try clear hb2); (try clear hk); (try clear hi); (try clear ho0)))
                                  have n0_ := Aside0.mk (Kd.R_drew HO140.out)
                                  have n1_ := Aside0.mk (below_drew1 HB.out)
                                  clear HO140
                                  clear HB
                                  have HO140 := n0_
                                  have HB := n1_
                                  clear n0_ n1_
                                  refine start_ (n := 18) (S := fun w' => True) (ds := []) #[false, false, false, false, false, false, false, false, false, false, false, false, false, false, false, false, false, false] (by kernel_rfl) rfl rfl trivial (fun hHeld => ?_); refine with_tabW spec_FlipLoss.tab13 spec_FlipLoss.bits13 (fun HT_ HW_ => ?_)
                                  generalize w39.drew = w40 at HO140 HB hHeld ⊢
                                  refine pure_ (i := 0) (N := some 71) (v := ?_) (a' := ?_) #[true, false, false, false, false, false, false, false, false, false, false, false, false, false, false, false, false, false] rfl rfl (any_of HT_.out (by kernel_rfl)) (fun _ _ _ h => h) (Or.inl ⟨by rfl, ?_⟩) ?_ ?_
                                  rotate_left
                                  · intro w'
                                    go_simp
                                    with_reducible rfl
                                  rotate_left
                                  · simp only [Act.put, List.setIfInBounds_toArray, List.set_cons_zero, List.set_cons_succ, i64_w, i32_w]
                                    rfl
                                  refine pure_ (i := 1) (N := some 72) (v := ?_) (a' := ?_) #[true, true, false, false, false, false, false, false, false, false, false, false, false, false, false, false, false, false] rfl rfl (any_of HT_.out (by kernel_rfl)) (fun _ _ _ h => h) (Or.inl ⟨by rfl, ?_⟩) ?_ ?_
                                  rotate_left
                                  · intro w'
                                    go_simp
                                    with_reducible rfl
                                  rotate_left
                                  · simp only [Act.put, List.setIfInBounds_toArray, List.set_cons_zero, List.set_cons_succ, i64_w, i32_w]
                                    rfl
                                  refine pure_ (i := 2) (N := some 73) (v := ?_) (a' := ?_) #[true, true, true, false, false, false, false, false, false, false, false, false, false, false, false, false, false, false] rfl rfl (any_of HT_.out (by kernel_rfl)) (fun _ _ _ h => h) (Or.inl ⟨by rfl, ?_⟩) ?_ ?_
                                  rotate_left
                                  · intro w'
                                    go_simp
                                    with_reducible rfl
                                  rotate_left
                                  · simp only [Act.put, List.setIfInBounds_toArray, List.set_cons_zero, List.set_cons_succ, i64_w, i32_w]
                                    rfl
                                  refine pure_ (i := 3) (N := some 74) (v := ?_) (a' := ?_) #[true, true, true, true, false, false, false, false, false, false, false, false, false, false, false, false, false, false] rfl rfl (any_of HT_.out (by kernel_rfl)) (fun _ _ _ h => h) (Or.inl ⟨by rfl, ?_⟩) ?_ ?_
                                  rotate_left
                                  · intro w'
                                    go_simp
                                    with_reducible rfl
                                  rotate_left
                                  · simp only [Act.put, List.setIfInBounds_toArray, List.set_cons_zero, List.set_cons_succ, i64_w, i32_w]
                                    rfl
                                  refine pure_ (i := 4) (N := some 75) (v := ?_) (a' := ?_) #[true, true, true, true, true, false, false, false, false, false, false, false, false, false, false, false, false, false] rfl rfl (any_of HT_.out (by kernel_rfl)) (fun _ _ _ h => h) (Or.inl ⟨by rfl, ?_⟩) ?_ ?_
                                  rotate_left
                                  · intro w'
                                    go_simp
                                    with_reducible rfl
                                  rotate_left
                                  · simp only [Act.put, List.setIfInBounds_toArray, List.set_cons_zero, List.set_cons_succ, i64_w, i32_w]
                                    rfl
                                  refine pure_ (i := 5) (N := some 76) (v := ?_) (a' := ?_) #[true, true, true, true, true, true, false, false, false, false, false, false, false, false, false, false, false, false] rfl rfl (any_of HT_.out (by kernel_rfl)) (fun _ _ _ h => h) (Or.inl ⟨by rfl, ?_⟩) ?_ ?_
                                  rotate_left
                                  · intro w'
                                    go_simp
                                    with_reducible rfl
                                  rotate_left
                                  · simp only [Act.put, List.setIfInBounds_toArray, List.set_cons_zero, List.set_cons_succ, i64_w, i32_w]
                                    rfl
                                  refine pure_ (i := 6) (N := some 77) (v := ?_) (a' := ?_) #[true, true, true, true, true, true, true, false, false, false, false, false, false, false, false, false, false, false] rfl rfl (any_of HT_.out (by kernel_rfl)) (fun _ _ _ h => h) (Or.inl ⟨by rfl, ?_⟩) ?_ ?_
                                  rotate_left
                                  · intro w'
                                    go_simp
                                    with_reducible rfl
                                  rotate_left
                                  · simp only [Act.put, List.setIfInBounds_toArray, List.set_cons_zero, List.set_cons_succ, i64_w, i32_w]
                                    rfl
                                  refine pure_ (i := 7) (N := some 78) (v := ?_) (a' := ?_) #[true, true, true, true, true, true, true, true, false, false, false, false, false, false, false, false, false, false] rfl rfl (any_of HT_.out (by kernel_rfl)) (fun _ _ _ h => h) (Or.inl ⟨by rfl, ?_⟩) ?_ ?_
                                  rotate_left
                                  · intro w'
                                    go_simp
                                    with_reducible rfl
                                  rotate_left
                                  · simp only [Act.put, List.setIfInBounds_toArray, List.set_cons_zero, List.set_cons_succ, i64_w, i32_w]
                                    rfl
                                  refine pure_ (i := 8) (N := some 79) (v := ?_) (a' := ?_) #[true, true, true, true, true, true, true, true, true, false, false, false, false, false, false, false, false, false] rfl rfl (any_of HT_.out (by kernel_rfl)) (fun _ _ _ h => h) (Or.inl ⟨by rfl, ?_⟩) ?_ ?_
                                  rotate_left
                                  · intro w'
                                    go_simp
                                    with_reducible rfl
                                  rotate_left
                                  · simp only [Act.put, List.setIfInBounds_toArray, List.set_cons_zero, List.set_cons_succ, i64_w, i32_w]
                                    rfl
                                  refine pure_ (i := 11) (N := some 82) (v := ?_) (a' := ?_) #[true, true, true, true, true, true, true, true, true, false, false, true, false, false, false, false, false, false] rfl rfl (any_of HT_.out (by kernel_rfl)) (fun _ _ _ h => h) (Or.inl ⟨by rfl, ?_⟩) ?_ ?_
                                  rotate_left
                                  · intro w'
                                    go_simp
                                    with_reducible rfl
                                  rotate_left
                                  · simp only [Act.put, List.setIfInBounds_toArray, List.set_cons_zero, List.set_cons_succ, i64_w, i32_w]
                                    rfl
                                  refine pure_ (i := 12) (N := some 83) (v := ?_) (a' := ?_) #[true, true, true, true, true, true, true, true, true, false, false, true, true, false, false, false, false, false] rfl rfl (any_of HT_.out (by kernel_rfl)) (fun _ _ _ h => h) (Or.inl ⟨by rfl, ?_⟩) ?_ ?_
                                  rotate_left
                                  · intro w'
                                    go_simp
                                    with_reducible rfl
                                  rotate_left
                                  · simp only [Act.put, List.setIfInBounds_toArray, List.set_cons_zero, List.set_cons_succ, i64_w, i32_w]
                                    rfl
                                  refine pure_ (i := 13) (N := some 84) (v := ?_) (a' := ?_) #[true, true, true, true, true, true, true, true, true, false, false, true, true, true, false, false, false, false] rfl rfl (any_of HT_.out (by kernel_rfl)) (fun _ _ _ h => h) (Or.inl ⟨by rfl, ?_⟩) ?_ ?_
                                  rotate_left
                                  · intro w'
                                    go_simp
                                    with_reducible rfl
                                  rotate_left
                                  · simp only [Act.put, List.setIfInBounds_toArray, List.set_cons_zero, List.set_cons_succ, i64_w, i32_w]
                                    rfl
                                  refine pure_ (i := 14) (N := some 85) (v := ?_) (a' := ?_) #[true, true, true, true, true, true, true, true, true, false, false, true, true, true, true, false, false, false] rfl rfl (any_of HT_.out (by kernel_rfl)) (fun _ _ _ h => h) (Or.inl ⟨by rfl, ?_⟩) ?_ ?_
                                  rotate_left
                                  · intro w'
                                    go_simp
                                    with_reducible rfl
                                  rotate_left
                                  · simp only [Act.put, List.setIfInBounds_toArray, List.set_cons_zero, List.set_cons_succ, i64_w, i32_w]
                                    rfl
                                  refine one_ (i := 9) (N := some 80) #[true, true, true, true, true, true, true, true, true, true, false, true, true, true, true, false, false, false] rfl rfl (one_of HT_.out (by kernel_rfl)) (by decide) (fun K hK => ?_)
                                  refine goes_ Tryd.func18 (by kernel_rfl) rfl #[.string (x9_2.extract (a2 : Int).toNat ((ji34) : Int).toNat)] (by rfl) rfl rfl (by (try simp only [List.map_toArray, List.map_cons, List.map_nil]); first | done | (simp only [hji34]; rfl) | rfl | (simp only [List.length_drop, List.length_take]; rfl)) ?_
                                  with_reducible refine (spec_l03Other.calls kj21 (x9_2.extract (a2 : Int).toNat ((ji34) : Int).toNat) t141 _ A32.out).mono ?_
                                  rintro e w41 ⟨rfl, hb⟩
                                  refine ⟨_, rfl, ?_⟩
                                  have n0_ := Aside0.mk (Kd.R_below (by (with_reducible repeat (first | apply Kd.R_alloc | apply Kd.R_drewN | apply Kd.R_drew)); exact HO140.out) hb)
                                  have n1_ := Aside0.mk (below_step (by repeat (first | (with_reducible first | exact HB.out | apply below_alloc | apply pw_below_drewN | apply below_drew1) | exact HB.out)) hb)
                                  clear HO140
                                  clear HB
                                  have HO140 := n0_
                                  have HB := n1_
                                  clear n0_ n1_
                                  (try clear hb)
                                  (try clear hb2)
                                  (try clear hk)
                                  (try clear hi)
                                  refine hK.out _ _ trivial (fun hHeld => ?_)
                                  clear hK K
                                  refine norm_ (a' := ?_) ?_ ?_
                                  rotate_left
                                  · show Act.put _ (some 80) _ = _
                                    simp only [Act.put, List.setIfInBounds_toArray, List.set_cons_zero, List.set_cons_succ, i64_w, i32_w]
                                    rfl
                                  refine pure_ (i := 10) (N := some 81) (v := ?_) (a' := ?_) #[true, true, true, true, true, true, true, true, true, true, true, true, true, true, true, false, false, false] rfl rfl (any_of HT_.out (by kernel_rfl)) (fun _ _ _ h => h) (Or.inl ⟨by rfl, ?_⟩) ?_ ?_
                                  rotate_left
                                  · intro w'
                                    go_simp
                                    with_reducible rfl
                                  rotate_left
                                  · simp only [Act.put, List.setIfInBounds_toArray, List.set_cons_zero, List.set_cons_succ, i64_w, i32_w]
                                    rfl
                                  refine pure_ (i := 15) (N := some 86) (v := ?_) (a' := ?_) #[true, true, true, true, true, true, true, true, true, true, true, true, true, true, true, true, false, false] rfl rfl (any_of HT_.out (by kernel_rfl)) (fun _ _ _ h => h) (Or.inl ⟨by rfl, ?_⟩) ?_ ?_
                                  rotate_left
                                  · intro w'
                                    go_simp
                                    with_reducible rfl
                                  rotate_left
                                  · simp only [Act.put, List.setIfInBounds_toArray, List.set_cons_zero, List.set_cons_succ, i64_w, i32_w]
                                    rfl
                                  refine one_ (i := 16) (N := some 87) #[true, true, true, true, true, true, true, true, true, true, true, true, true, true, true, true, true, false] rfl rfl (one_of HT_.out (by kernel_rfl)) (by decide) (fun K hK => ?_)
                                  refine goes_ Tryd.func17 (by kernel_rfl) rfl #[.slice A0 l0.length c0, .string (((x9_2.extract 0 (a2 : Int).toNat) ++ t141) ++ (x9_2.extract ((ji34) : Int).toNat x9_2.size))] (by rfl) rfl rfl (by (try simp only [List.map_toArray, List.map_cons, List.map_nil]); first | done | (simp only [hji34]; rfl) | rfl | (simp only [List.length_drop, List.length_take]; rfl)) ?_
                                  with_reducible refine (spec_l05Ends.calls kj21 _ _ l0 (((x9_2.extract 0 (a2 : Int).toNat) ++ t141) ++ (x9_2.extract ((ji34) : Int).toNat x9_2.size)) t142 _ ?side1 ?side2 A38.out).mono ?_
                                  (case side1 => repeat (first | exact (Kd.C_below HR0.out HB.out) | (with_reducible refine Kd.C_alloc ?_ _) | (with_reducible refine Kd.C_drewN ?_ _) | (with_reducible refine Kd.C_drew ?_)))
                                  (case side2 => exact HC0.out)
                                  rintro e w42 ⟨v143, rfl, ho0, hb⟩
                                  refine ⟨_, rfl, ?_⟩
                                  have n0_ := Aside0.mk (Kd.R_elder' (by (with_reducible repeat (first | apply Kd.R_alloc | apply Kd.R_drewN | apply Kd.R_drew)); exact HO140.out) (Kd.R_base ho0) hb)
                                  have n1_ := Aside0.mk (Kd.R_lower (Kd.R_new' ho0 (Kd.R_lt (by (with_reducible repeat (first | apply Kd.R_alloc | apply Kd.R_drewN | apply Kd.R_drew)); exact HO140.out))) (below_size (by repeat (first | (with_reducible first | exact HB.out | apply below_alloc | apply pw_below_drewN | apply below_drew1) | exact HB.out))))
                                  have n2_ := Aside0.mk (below_step (by repeat (first | (with_reducible first | exact HB.out | apply below_alloc | apply pw_below_drewN | apply below_drew1) | exact HB.out)) hb)
                                  clear HO140
                                  clear HB
                                  have HO140 := n0_
                                  have HO144 := n1_
                                  have HB := n2_
                                  clear n0_ n1_ n2_
                                  (try clear hb)
                                  (try clear hb2)
                                  (try clear hk)
                                  (try clear hi)
                                  (try clear ho0)
                                  refine hK.out _ _ trivial (fun hHeld => ?_)
                                  clear hK K
                                  refine norm_ (a' := ?_) ?_ ?_
                                  rotate_left
                                  · show Act.put _ (some 87) _ = _
                                    simp only [Act.put, List.setIfInBounds_toArray, List.set_cons_zero, List.set_cons_succ, i64_w, i32_w]
                                    rfl
                                  refine pure_ (i := 17) (N := some 12) (v := ?_) (a' := ?_) #[true, true, true, true, true, true, true, true, true, true, true, true, true, true, true, true, true, true] rfl rfl (any_of HT_.out (by kernel_rfl)) (fun _ _ _ h => h) (Or.inl ⟨by rfl, ?_⟩) ?_ ?_
                                  rotate_left
                                  · intro w'
                                    go_simp
                                    with_reducible rfl
                                  rotate_left
                                  · simp only [Act.put, List.setIfInBounds_toArray, List.set_cons_zero, List.set_cons_succ, i64_w, i32_w]
                                    rfl
                                  refine done_ (done_of HT_.out (by kernel_rfl)) ?_
                                  try go_wp2
                                  go_loopg [13, 14] kj21 (fun kq v13 v14 w' => ∃ (x13_4 : Int) (x14_4 : Int), v13 = .int .i64 x13_4 ∧ v14 = .int .i64 x14_4 ∧ Aside0 (spec_FlipLoss.l1 kq a2 t138 t142 x13_4 x14_4 = some (r1, r2, r3)) ∧ Aside0 (kq ≤ kj21) ∧ Aside0 (Kd.R (Kd.int .i64) 2 w' w.heap.size (fun k_ => some k_ ≠ (v143 : Value).ownBlock) v139 t138) ∧ Aside0 (Kd.R (Kd.int .i64) 2 w' w.heap.size (fun k_ => some k_ ≠ (v139 : Value).ownBlock) v143 t142) ∧ Aside0 (Below w.heap.size w w'))
                                  case atStart => exact ⟨(0), (0), (by first | rfl | (simp; done) | (simp [*]; done)), (by first | rfl | (simp; done) | (simp [*]; done)), H', ⟨Nat.le_refl _⟩, ⟨by (with_reducible repeat (first | apply Kd.R_alloc | apply Kd.R_drewN | apply Kd.R_drew)); exact Kd.R_mono HO140.out (fun _ hk => hk.2)⟩, ⟨by (with_reducible repeat (first | apply Kd.R_alloc | apply Kd.R_drewN | apply Kd.R_drew)); exact Kd.R_mono HO144.out (fun _ hk => hk.2)⟩, ⟨by repeat (first | (with_reducible first | exact HB.out | apply below_alloc | apply pw_below_drewN | apply below_drew1) | exact HB.out)⟩⟩
                                  case round =>
                                    clear H'
                                    try clear c1
                                    try clear p1
                                    try clear q1
                                    try clear hx1
                                    try clear c2
                                    try clear p2
                                    try clear c3
                                    try clear c6
                                    try clear p6
                                    try clear c7
                                    try clear c7b0
                                    try clear c7b1
                                    try clear c10
                                    try clear p13
                                    try clear q13
                                    try clear hx13
                                    try clear c14
                                    try clear c15
                                    try clear c15b0
                                    try clear c16
                                    try clear c16b0
                                    try clear c17
                                    try clear c18
                                    try clear c19
                                    try clear c19b0
                                    try clear c20
                                    try clear c20b0
                                    try clear c21
                                    try clear c21b0
                                    try clear c21b1
                                    try clear c21b2
                                    try clear c23
                                    try clear c23b0
                                    try clear c23b1
                                    try clear c25
                                    try clear c27
                                    try clear c27b0
                                    try clear c27b1
                                    try clear c28
                                    try clear c28b0
                                    try clear c28b1
                                    try clear c29
                                    try clear c29b0
                                    try clear c30
                                    try clear c30b0
                                    try clear c30b1
                                    try clear c31
                                    try clear c31b0
                                    try clear c31b1
                                    try clear c33
                                    try clear c33b0
                                    try clear c33b1
                                    try clear c33b2
                                    try clear c35
                                    try clear c35b0
                                    try clear c35b1
                                    try clear c36
                                    try clear c36b0
                                    try clear c37
                                    try clear c37b0
                                    try clear c37b1
                                    try clear c37b2
                                    try clear hx133_0
                                    try clear hx135_0
                                    try clear hx136_0
                                    try clear p1
                                    try clear p13
                                    try clear p133
                                    try clear p135
                                    try clear p136
                                    try clear p2
                                    try clear p6
                                    try clear q1
                                    try clear q13
                                    try clear q133
                                    try clear q135
                                    try clear q136
                                    obtain ⟨x13_4, x14_4, rfl, rfl, HA, HK4, HO_11, HO_12, HB⟩ := hrel
                                    cases gk with
                                    | zero => exact absurd HA.out (by simp [spec_FlipLoss.l1])
                                    | succ k4 =>
                                      have H := HA.out
                                      clear HA
                                      simp only [spec_FlipLoss.l1] at H
                                      by_cases c43 : x14_4 < (t138.length : Int)
                                      · rw [if_pos c43] at H
                                        have c43b0 : decide (x14_4 < (t138.length : Int)) = true := decide_eq_true c43
                                        clear c43
                                        by_cases c44 : 0 ≤ x14_4
                                        · rw [if_pos c44] at H
                                          have c44b0 : decide (0 ≤ x14_4) = true := decide_eq_true c44
                                          clear c44
                                          by_cases c45 : (rd t138 x14_4) ≤ a2
                                          · rw [if_pos c45] at H
                                            have c45b0 : decide ((rd t138 x14_4) ≤ a2) = true := decide_eq_true c45
                                            clear c45
                                            have H' := Aside0.mk H
                                            clear H
                                            obtain ⟨Ao46, co46, eo46⟩ := Kd.R_slice HO_11.out
                                            subst eo46
                                            have p145 : 0 ≤ (x14_4 : Int) := of_decide_eq_true (by first | (with_reducible assumption) | assumption)
                                            have q145 : x14_4 < (t138.length : Int) := of_decide_eq_true (by first | (with_reducible assumption) | assumption)
                                            obtain ⟨ad145, e145, hx145_0⟩ := Kd.at_int (Kd.R_reads' HO_11.out).2.2 x14_4 p145 q145
                                            cases e145
                                            replace p145 := eq_true p145
                                            replace q145 := eq_true q145
                                            go_wp2
                                            go_roundg k4
                                            case measure => have := HJ3.out; have := HK2.out; have := HJ21.out; have := HK4.out; omega
                                            case rel => exact ⟨(x13_4), (wrap64 (x14_4 + 1)), (by first | rfl | (simp; done) | (simp [*]; done)), (by first | rfl | (simp; done) | (simp [*]; done)), H', ⟨by have := HJ3.out; have := HK2.out; have := HJ21.out; have := HK4.out; omega⟩, ⟨by (with_reducible repeat (first | apply Kd.R_alloc | apply Kd.R_drewN | apply Kd.R_drew)); exact HO_11.out⟩, ⟨by (with_reducible repeat (first | apply Kd.R_alloc | apply Kd.R_drewN | apply Kd.R_drew)); exact HO_12.out⟩, ⟨by repeat (first | (with_reducible first | exact HB.out | apply below_alloc | apply pw_below_drewN | apply below_drew1) | exact HB.out)⟩⟩
                                          · rw [if_neg c45] at H
                                            have c45b0 : decide ((rd t138 x14_4) ≤ a2) = false := decide_eq_false c45
                                            clear c45
                                            replace H := Option.bind_eq_some_iff.mp H
                                            obtain ⟨t147, A470, H⟩ := H
                                            replace H : (if t147 = true then (some (wrap64 (x13_4 + 1), rd t138 x14_4, true)) else (spec_FlipLoss.l1 k4 a2 t138 t142 (wrap64 (x13_4 + 1)) (wrap64 (x14_4 + 1)))) = some (r1, r2, r3) := H
                                            have A47 := Aside0.mk A470
                                            clear A470
                                            by_cases c48 : t147 = true
                                            · subst c48
                                              have H1 : (some (wrap64 (x13_4 + 1), rd t138 x14_4, true)) = some (r1, r2, r3) := by rw [if_pos rfl] at H; exact H
                                              clear H
                                              have H := H1
                                              clear H1
                                              simp only [Option.some.injEq, Prod.mk.injEq] at H
                                              obtain ⟨rfl, rfl, rfl⟩ := H
                                              obtain ⟨Ao49, co49, eo49⟩ := Kd.R_slice HO_11.out
                                              subst eo49
                                              have p145 : 0 ≤ (x14_4 : Int) := of_decide_eq_true (by first | (with_reducible assumption) | assumption)
                                              have q145 : x14_4 < (t138.length : Int) := of_decide_eq_true (by first | (with_reducible assumption) | assumption)
                                              obtain ⟨ad145, e145, hx145_0⟩ := Kd.at_int (Kd.R_reads' HO_11.out).2.2 x14_4 p145 q145
                                              cases e145
                                              replace p145 := eq_true p145
                                              replace q145 := eq_true q145
                                              have p146 : 0 ≤ (x14_4 : Int) := of_decide_eq_true (by first | (with_reducible assumption) | assumption)
                                              have q146 : x14_4 < (t138.length : Int) := of_decide_eq_true (by first | (with_reducible assumption) | assumption)
                                              obtain ⟨ad146, e146, hx146_0⟩ := Kd.at_int (Kd.R_reads' HO_11.out).2.2 x14_4 p146 q146
                                              obtain rfl : ad145 = ad146 := (by injection e146)
                                              replace p146 := eq_true p146
                                              replace q146 := eq_true q146
                                              obtain ⟨Ao50, co50, eo50⟩ := Kd.R_slice HO_12.out
                                              subst eo50
                                              try go_wp2_with (first | ((with_reducible refine gate_callee (f := 19) rfl ?_); refine goesL_ (some 107) rfl rfl Tryd.func19 (by kernel_rfl) rfl #[.slice Ao50 t142.length co50, .int .i64 (rd t138 x14_4)] rfl (by (try simp only [List.map_toArray, List.map_cons, List.map_nil]); first | done | rfl | (simp only [List.length_drop, List.length_take]; rfl)) ?_; (with_reducible refine (spec_l00Has.calls k4 _ _ t142 (rd t138 x14_4) true _ ?side1 ?side2 A47.out).mono ?_); (case side1 => repeat (first | exact (Kd.R_reads' HO_12.out).2.2 | (with_reducible refine Kd.C_alloc ?_ _) | (with_reducible refine Kd.C_drewN ?_ _) | (with_reducible refine Kd.C_drew ?_))); (case side2 => exact (Kd.R_reads' HO_12.out).2.1); rintro e w' ⟨rfl, ⟨nd, rfl⟩⟩; refine ⟨_, rfl, ?_⟩))
                                              (try (rw [drewN_self wr]; generalize hq_ : World.drewN wr _ = wr; have n0_ : Aside0 (Kd.R (Kd.int .i64) 2 wr w.heap.size (fun k_ => some k_ ≠ (.slice Ao50 t142.length co50 : Value).ownBlock) (.slice (some ad145) t138.length co49) t138) := ⟨by rw [← hq_]; exact (by (with_reducible repeat (first | apply Kd.R_alloc | apply Kd.R_drewN | apply Kd.R_drew)); exact HO_11.out)⟩; have n1_ : Aside0 (Kd.R (Kd.int .i64) 2 wr w.heap.size (fun k_ => some k_ ≠ (.slice (some ad145) t138.length co49 : Value).ownBlock) (.slice Ao50 t142.length co50) t142) := ⟨by rw [← hq_]; exact (by (with_reducible repeat (first | apply Kd.R_alloc | apply Kd.R_drewN | apply Kd.R_drew)); exact HO_12.out)⟩; have n2_ : Aside0 (Below w.heap.size w wr) := ⟨by rw [← hq_]; exact (by repeat (first | (with_reducible first | exact HB.out | apply below_alloc | apply pw_below_drewN | apply below_drew1) | exact HB.out))⟩; clear HO_11 HO_12 HB hq_; have HO_11 := n0_; have HO_12 := n1_; have HB := n2_; clear n0_ n1_ n2_))
                                              have n0_ := Aside0.mk (Kd.R_drew HO_11.out)
                                              have n1_ := Aside0.mk (Kd.R_drew HO_12.out)
                                              have n2_ := Aside0.mk (below_drew1 HB.out)
                                              clear HO_11
                                              clear HO_12
                                              clear HB
                                              have HO_11 := n0_
                                              have HO_12 := n1_
                                              have HB := n2_
                                              clear n0_ n1_ n2_
                                              have p148 : 0 ≤ (x14_4 : Int) := of_decide_eq_true (by first | (with_reducible assumption) | assumption)
                                              have q148 : x14_4 < (t138.length : Int) := of_decide_eq_true (by first | (with_reducible assumption) | assumption)
                                              obtain ⟨ad148, e148, hx148_0⟩ := Kd.at_int (Kd.R_reads' HO_11.out).2.2 x14_4 p148 q148
                                              obtain rfl : ad145 = ad148 := (by injection e148)
                                              replace p148 := eq_true p148
                                              replace q148 := eq_true q148
                                              refine start_ (n := 8) (S := fun w' => w'.cell? (ad145.add (x14_4).toNat) = some (.int .i64 (rd t138 x14_4))) (ds := []) #[false, false, false, false, false, false, false, false] (by kernel_rfl) rfl rfl (hx148_0) (fun hHeld => ?_); refine with_tabW spec_FlipLoss.tab21 spec_FlipLoss.bits21 (fun HT_ HW_ => ?_)
                                              generalize wr.drew = w51 at HO_11 HO_12 HB hx148_0 hHeld ⊢
                                              refine pure_ (i := 0) (N := some 108) (v := ?_) (a' := ?_) #[true, false, false, false, false, false, false, false] rfl rfl (any_of HT_.out (by kernel_rfl)) (fun _ _ _ h => h) (Or.inl ⟨by rfl, ?_⟩) ?_ ?_
                                              rotate_left
                                              · intro w'
                                                go_simp
                                                with_reducible rfl
                                              rotate_left
                                              · simp only [Act.put, List.setIfInBounds_toArray, List.set_cons_zero, List.set_cons_succ, i64_w, i32_w]
                                                rfl
                                              refine pure_ (i := 1) (N := some 109) (v := ?_) (a' := ?_) #[true, true, false, false, false, false, false, false] rfl rfl (any_of HT_.out (by kernel_rfl)) (fun _ _ _ h => h) (Or.inl ⟨by rfl, ?_⟩) ?_ ?_
                                              rotate_left
                                              · intro w'
                                                go_simp
                                                with_reducible rfl
                                              rotate_left
                                              · simp only [Act.put, List.setIfInBounds_toArray, List.set_cons_zero, List.set_cons_succ, i64_w, i32_w]
                                                rfl
                                              refine pure_ (i := 2) (N := some 110) (v := ?_) (a' := ?_) #[true, true, true, false, false, false, false, false] rfl rfl (any_of HT_.out (by kernel_rfl)) (fun _ _ _ h => h) (Or.inl ⟨by rfl, ?_⟩) ?_ ?_
                                              rotate_left
                                              · intro w'
                                                go_simp
                                                with_reducible rfl
                                              rotate_left
                                              · simp only [Act.put, List.setIfInBounds_toArray, List.set_cons_zero, List.set_cons_succ, i64_w, i32_w]
                                                rfl
                                              refine pure_ (i := 3) (N := some 111) (v := ?_) (a' := ?_) #[true, true, true, true, false, false, false, false] rfl rfl (any_of HT_.out (by kernel_rfl)) (fun _ _ _ h => h) (Or.inl ⟨by rfl, ?_⟩) ?_ ?_
                                              rotate_left
                                              · intro w'
                                                go_simp
                                                with_reducible rfl
                                              rotate_left
                                              · simp only [Act.put, List.setIfInBounds_toArray, List.set_cons_zero, List.set_cons_succ, i64_w, i32_w]
                                                rfl
                                              refine pure_ (i := 5) (N := some 6) (v := ?_) (a' := ?_) #[true, true, true, true, false, true, false, false] rfl rfl (any_of HT_.out (by kernel_rfl)) (fun _ _ _ h => h) (Or.inl ⟨by rfl, ?_⟩) ?_ ?_
                                              rotate_left
                                              · intro w'
                                                go_simp
                                                with_reducible rfl
                                              rotate_left
                                              · simp only [Act.put, List.setIfInBounds_toArray, List.set_cons_zero, List.set_cons_succ, i64_w, i32_w]
                                                rfl
                                              refine take_ (i := 4) (N := some 112) (v := ?_) (a' := ?_) #[true, true, true, true, true, true, false, false] rfl rfl (take_ofW HT_.out HW_.out (by kernel_rfl)) (fun _ _ _ h => h) (Or.inl ⟨by rfl, ?_⟩) hHeld ?_ ?_
                                              rotate_left
                                              · intro w' s0
                                                go_simp
                                                with_reducible rfl
                                              rotate_left
                                              · simp only [Act.put, List.setIfInBounds_toArray, List.set_cons_zero, List.set_cons_succ, i64_w, i32_w]
                                                rfl
                                              refine pure_ (i := 6) (N := some 7) (v := ?_) (a' := ?_) #[true, true, true, true, true, true, true, false] rfl rfl (any_of HT_.out (by kernel_rfl)) (fun _ _ _ h => h) (Or.inl ⟨by rfl, ?_⟩) ?_ ?_
                                              rotate_left
                                              · intro w'
                                                go_simp
                                                with_reducible rfl
                                              rotate_left
                                              · simp only [Act.put, List.setIfInBounds_toArray, List.set_cons_zero, List.set_cons_succ, i64_w, i32_w]
                                                rfl
                                              refine pure_ (i := 7) (N := some 8) (v := ?_) (a' := ?_) #[true, true, true, true, true, true, true, true] rfl rfl (any_of HT_.out (by kernel_rfl)) (fun _ _ _ h => h) (Or.inl ⟨by rfl, ?_⟩) ?_ ?_
                                              rotate_left
                                              · intro w'
                                                go_simp
                                                with_reducible rfl
                                              rotate_left
                                              · simp only [Act.put, List.setIfInBounds_toArray, List.set_cons_zero, List.set_cons_succ, i64_w, i32_w]
                                                rfl
                                              refine done_ (done_of HT_.out (by kernel_rfl)) ?_
                                              try go_wp2
                                              go_ret3
                                              exact ⟨by first | rfl | (simp [errW_none, errW_some] <;> rfl) | (simp only [← hji34]; first | rfl | (simp [errW_none, errW_some] <;> rfl)) | (simp [*, errW_none, errW_some] <;> rfl), by repeat (first | (with_reducible first | exact HB.out | apply below_alloc | apply pw_below_drewN | apply below_drew1) | exact HB.out)⟩
                                            · replace c48 := Bool.eq_false_iff.mpr c48
                                              subst c48
                                              have H1 : (spec_FlipLoss.l1 k4 a2 t138 t142 (wrap64 (x13_4 + 1)) (wrap64 (x14_4 + 1))) = some (r1, r2, r3) := by rw [if_neg (show ¬ (false = true) by decide)] at H; exact H
                                              clear H
                                              have H := H1
                                              clear H1
                                              have H' := Aside0.mk H
                                              clear H
                                              obtain ⟨Ao52, co52, eo52⟩ := Kd.R_slice HO_11.out
                                              subst eo52
                                              have p145 : 0 ≤ (x14_4 : Int) := of_decide_eq_true (by first | (with_reducible assumption) | assumption)
                                              have q145 : x14_4 < (t138.length : Int) := of_decide_eq_true (by first | (with_reducible assumption) | assumption)
                                              obtain ⟨ad145, e145, hx145_0⟩ := Kd.at_int (Kd.R_reads' HO_11.out).2.2 x14_4 p145 q145
                                              cases e145
                                              replace p145 := eq_true p145
                                              replace q145 := eq_true q145
                                              have p146 : 0 ≤ (x14_4 : Int) := of_decide_eq_true (by first | (with_reducible assumption) | assumption)
                                              have q146 : x14_4 < (t138.length : Int) := of_decide_eq_true (by first | (with_reducible assumption) | assumption)
                                              obtain ⟨ad146, e146, hx146_0⟩ := Kd.at_int (Kd.R_reads' HO_11.out).2.2 x14_4 p146 q146
                                              obtain rfl : ad145 = ad146 := (by injection e146)
                                              replace p146 := eq_true p146
                                              replace q146 := eq_true q146
                                              obtain ⟨Ao53, co53, eo53⟩ := Kd.R_slice HO_12.out
                                              subst eo53
                                              go_wp2_with (first | ((with_reducible refine gate_callee (f := 19) rfl ?_); refine goesL_ (some 107) rfl rfl Tryd.func19 (by kernel_rfl) rfl #[.slice Ao53 t142.length co53, .int .i64 (rd t138 x14_4)] rfl (by (try simp only [List.map_toArray, List.map_cons, List.map_nil]); first | done | rfl | (simp only [List.length_drop, List.length_take]; rfl)) ?_; (with_reducible refine (spec_l00Has.calls k4 _ _ t142 (rd t138 x14_4) false _ ?side1 ?side2 A47.out).mono ?_); (case side1 => repeat (first | exact (Kd.R_reads' HO_12.out).2.2 | (with_reducible refine Kd.C_alloc ?_ _) | (with_reducible refine Kd.C_drewN ?_ _) | (with_reducible refine Kd.C_drew ?_))); (case side2 => exact (Kd.R_reads' HO_12.out).2.1); rintro e w' ⟨rfl, ⟨nd, rfl⟩⟩; refine ⟨_, rfl, ?_⟩))
                                              go_roundg k4
                                              case measure => have := HJ3.out; have := HK2.out; have := HJ21.out; have := HK4.out; omega
                                              case rel => exact ⟨(wrap64 (x13_4 + 1)), (wrap64 (x14_4 + 1)), (by first | rfl | (simp; done) | (simp [*]; done)), (by first | rfl | (simp; done) | (simp [*]; done)), H', ⟨by have := HJ3.out; have := HK2.out; have := HJ21.out; have := HK4.out; omega⟩, ⟨by (with_reducible repeat (first | apply Kd.R_alloc | apply Kd.R_drewN | apply Kd.R_drew)); exact HO_11.out⟩, ⟨by (with_reducible repeat (first | apply Kd.R_alloc | apply Kd.R_drewN | apply Kd.R_drew)); exact HO_12.out⟩, ⟨by repeat (first | (with_reducible first | exact HB.out | apply below_alloc | apply pw_below_drewN | apply below_drew1) | exact HB.out)⟩⟩
                                        · rw [if_neg c44] at H
                                          exact absurd H (by simp)
                                      · rw [if_neg c43] at H
                                        have c43b0 : decide (x14_4 < (t138.length : Int)) = false := decide_eq_false c43
                                        clear c43
                                        simp only [Option.some.injEq, Prod.mk.injEq] at H
                                        obtain ⟨rfl, rfl, rfl⟩ := H
                                        obtain ⟨Ao54, co54, eo54⟩ := Kd.R_slice HO_11.out
                                        subst eo54
                                        go_wp2
                                        go_ret3
                                        exact ⟨by first | rfl | (simp [errW_none, errW_some] <;> rfl) | (simp only [← hji34]; first | rfl | (simp [errW_none, errW_some] <;> rfl)) | (simp [*, errW_none, errW_some] <;> rfl), by repeat (first | (with_reducible first | exact HB.out | apply below_alloc | apply pw_below_drewN | apply below_drew1) | exact HB.out)⟩
                                · rw [if_neg c37] at H
                                  exact absurd H (by simp)
                              · rw [if_neg c35] at H
                                exact absurd H (by simp)
                            · rw [if_neg c33] at H
                              exact absurd H (by simp)
                          · rw [if_neg c31] at H
                            exact absurd H (by simp)
                        · rw [if_neg c30] at H
                          exact absurd H (by simp)
                      · rw [if_neg c28] at H
                        exact absurd H (by simp)
                    · rw [if_neg c27] at H
                      exact absurd H (by simp)
theorem flip_split (s : ByteArray) (p : Nat) (h : p < (by_ s).length) : s.extract 0 p ++ ⟨#[if (by_ s)[p] = 49 then 48 else 49]⟩ ++ s.extract (p + 1) s.size = flipped s p := by
  apply by_ext
  rw [by_append, by_append]
  have e1 : by_ (s.extract 0 p) = (by_ s).take p := by
    simp only [by_, ByteArray.data_extract, Array.toList_extract, List.extract_eq_take_drop]
    simp
  have e2 : by_ (s.extract (p + 1) s.size) = (by_ s).drop (p + 1) := by
    simp only [by_, ByteArray.data_extract, Array.toList_extract, List.extract_eq_take_drop]
    exact List.take_of_length_le (by rw [List.length_drop]; exact Nat.le_of_eq (by rw [← by_length]))
  rw [e1, e2]
  unfold flipped
  have e3 : (by_ s)[p]? = some (by_ s)[p] := List.getElem?_eq_getElem h
  simp only [by_mk, e3, Option.some.injEq]
  rw [List.append_assoc]
  rfl
theorem spec_FlipLoss.l1_any (E1 E2 : List Bool) (p : Nat) (hE : E1.length = E2.length) (hl : E1.length ≤ 400) : ∀ (d j i : Nat) (n : Int), j + d = E1.length → (idxs 0 E1).drop i = idxs j (E1.drop j) → 0 ≤ n → n ≤ j →
    Ev (fun k => spec_FlipLoss.l1 k (p : Int) (idxs 0 E1) (idxs 0 E2) n (i : Int)) (fin3 p j (E1.drop j) (E2.drop j) n)
  | 0, j, i, n, hj, hd, h0, h1 => by
    rw [List.drop_eq_nil_of_le (show E1.length ≤ j by omega)] at hd ⊢
    have hi : (idxs 0 E1).length ≤ i := by
      rcases Nat.lt_or_ge i (idxs 0 E1).length with h | h
      · rw [drop_at _ i h] at hd
        have hd' : _ :: _ = ([] : List Int) := hd
        cases hd'
      · exact h
    refine Ev.step (f := fun _ => some _) (fun k => ?_) (Ev.now _)
    simp only [spec_FlipLoss.l1]
    rw [if_neg (by omega)]
    simp [fin3]
  | d + 1, j, i, n, hj, hd, h0, h1 => by
    have hlt : j < E1.length := by omega
    have hlt2 : j < E2.length := by omega
    have hlen := idxs_len E1 0
    rw [drop_at _ j hlt] at hd
    rw [drop_at _ j hlt, drop_at _ j hlt2]
    simp only [idxs] at hd
    simp only [fin3]
    cases he : E1[j]
    · rw [he] at hd
      rw [if_neg (by decide)] at hd
      rw [if_neg (by decide)]
      exact spec_FlipLoss.l1_any E1 E2 p hE hl d (j + 1) i n (by omega) hd h0 (by omega)
    · rw [he, if_pos rfl] at hd
      rw [if_pos rfl]
      have hi : i < (idxs 0 E1).length := by
        rcases Nat.lt_or_ge i (idxs 0 E1).length with h | h
        · exact h
        · rw [List.drop_eq_nil_of_le h] at hd; cases hd
      rw [drop_at _ i hi] at hd
      injection hd with hx hd
      by_cases hp : j + 1 ≤ p
      · rw [if_pos hp]
        refine Ev.step (f := fun k => spec_FlipLoss.l1 k (p : Int) (idxs 0 E1) (idxs 0 E2) n ((i + 1 : Nat) : Int)) (fun k => ?_) (spec_FlipLoss.l1_any E1 E2 p hE hl d (j + 1) (i + 1) n (by omega) hd h0 (by omega))
        simp only [spec_FlipLoss.l1]
        rw [if_pos (by omega), if_pos (by omega), rd_at _ _ hi, hx, if_pos (by omega), wrap64_id (x := (i : Int) + 1) (by omega) (by omega)]
        rfl
      · rw [if_neg hp]
        have hh := spec_l00Has.any (idxs 0 E2) ((j + 1 : Nat) : Int) (by have := idxs_len E2 0; omega)
        have hm : decide (((j + 1 : Nat) : Int) ∈ idxs 0 E2) = E2[j] := by
          have := idxs_mem E2 0 j
          rw [List.getElem?_eq_getElem hlt2] at this
          simp only [Nat.zero_add, Option.some.injEq] at this
          cases h2 : E2[j]
          · rw [h2] at this; exact decide_eq_false (fun h => by have := this.mp h; cases this)
          · rw [h2] at this; exact decide_eq_true (this.mpr rfl)
        rw [hm] at hh
        refine Ev.step (f := fun k => (spec_l00Has.f k (idxs 0 E2) ((j + 1 : Nat) : Int)).bind fun t147 => (if t147 = true then (some (n + 1, ((j + 1 : Nat) : Int), true)) else (spec_FlipLoss.l1 k (p : Int) (idxs 0 E1) (idxs 0 E2) (n + 1) ((i + 1 : Nat) : Int)))) (fun k => ?_) (Ev.bind hh ?_)
        · simp only [spec_FlipLoss.l1]
          rw [if_pos (by omega), if_pos (by omega), rd_at _ _ hi, hx, if_neg (by omega), wrap64_id (x := (i : Int) + 1) (by omega) (by omega), wrap64_id (x := n + 1) (by omega) (by omega)]
          rfl
        · cases h2 : E2[j]
          · rw [if_neg (by decide)]
            exact Ev.congr (fun k => if_neg (by decide)) (spec_FlipLoss.l1_any E1 E2 p hE hl d (j + 1) (i + 1) (n + 1) (by omega) hd (by omega) (by omega))
          · rw [if_pos rfl]
            exact Ev.congr (fun k => if_pos rfl) (Ev.now _)
theorem spec_FlipLoss.j2_any (l : List ByteArray) (hl : l.length ≤ 140737488351232) (s : ByteArray) (p : Nat) (hs : s.size ≤ 400) (hp : p < s.size) (hb : bitsB s = true) :
    Ev (fun k => spec_FlipLoss.j2 k l (p : Int) s false) (fin2 (p + 1) ((ego l ⟨#[]⟩ (by_ s)).drop p) ((ego l ⟨#[]⟩ (by_ (flipped s p))).drop p) 0) := by
  have hpl : p < (by_ s).length := by rw [by_length]; exact hp
  have hfs := flipped_size s p hp
  have h1 := spec_l05Ends.any l s hl (by omega)
  have h2 := spec_l05Ends.any l (flipped s p) hl (by omega)
  have hc : (by_ s)[p] = 48 ∨ (by_ s)[p] = 49 := by
    have := List.all_eq_true.1 (show (by_ s).all (fun c => c == 48 || c == 49) = true from hb) _ (List.getElem_mem hpl)
    simpa using this
  have h3 := spec_l03Other.one (by_ s)[p] hc
  have hlen : (ego l ⟨#[]⟩ (by_ s)).length = (ego l ⟨#[]⟩ (by_ (flipped s p))).length := by rw [ego_len, ego_len, by_length, by_length, hfs]
  have h4 := spec_FlipLoss.l1_any (ego l ⟨#[]⟩ (by_ s)) (ego l ⟨#[]⟩ (by_ (flipped s p))) p hlen (by rw [ego_len, by_length]; exact hs) (ego l ⟨#[]⟩ (by_ s)).length 0 0 0 (by omega) rfl (by omega) (by omega)
  have h5 := fin3_lt p p 0 (ego l ⟨#[]⟩ (by_ s)) (ego l ⟨#[]⟩ (by_ (flipped s p))) 0 (by omega) hlen
  rw [List.drop_zero, List.drop_zero, h5] at h4
  have e1 : (s.extract 0 p).size = p := by rw [ByteArray.size_extract]; omega
  have e2 : (s.extract (p + 1) s.size).size = s.size - (p + 1) := by rw [ByteArray.size_extract]; omega
  have q1 : (0 : Int) ≤ (p : Int) := by omega
  have q2 : (p : Int) ≤ (s.size : Int) := by omega
  have q3 : (p : Int) ≤ ((p + 1 : Nat) : Int) := by omega
  have q4 : ((p + 1 : Nat) : Int) ≤ (s.size : Int) := by omega
  have q5 : (0 : Int) ≤ ((p + 1 : Nat) : Int) := by omega
  have q6 : p + 1 ≤ 9223372036854775807 := by omega
  have q7 : p + 1 + (s.size - (p + 1)) ≤ 9223372036854775807 := by omega
  have w1 : wrap64 ((p : Int) + 1) = ((p + 1 : Nat) : Int) := (wrap64_id (x := (p : Int) + 1) (by omega) (by omega)).trans (by omega)
  have e3 : (⟨#[if (by_ s)[p] = 49 then 48 else 49]⟩ : ByteArray).size = 1 := rfl
  have hsp := flip_split s p hpl
  clear hlen h5 hc
  generalize ego l ⟨#[]⟩ (by_ s) = E1 at h1 h4 ⊢
  generalize ego l ⟨#[]⟩ (by_ (flipped s p)) = E2 at h2 h4 ⊢
  refine Ev.step (f := fun k => (spec_l05Ends.f k l s).bind fun t138 => ((spec_l03Other.f k (⟨#[(by_ s)[p]]⟩ : ByteArray)).bind fun t141 => (if p + t141.size ≤ 9223372036854775807 then (if p + t141.size + (s.size - (p + 1)) ≤ 9223372036854775807 then ((spec_l05Ends.f k l (s.extract 0 p ++ t141 ++ s.extract (p + 1) s.size)).bind fun t142 => (spec_FlipLoss.l1 k (p : Int) t138 t142 0 0)) else (none)) else (none)))) (fun k => ?_) ?_
  · simp only [spec_FlipLoss.j2]
    rw [if_neg (by decide)]
    simp only [w1, Int.toNat_natCast, ext1 s p hpl, if_pos q1, if_pos q2, if_pos q3, if_pos q4, if_pos q5, ByteArray.size_append, e1, e2]
  · refine Ev.bind h1 (Ev.bind h3 (Ev.congr (fun k => (if_pos (by rw [e3]; exact q6)).trans (if_pos (by rw [e3]; exact q7))) ?_))
    rw [hsp]
    exact Ev.bind h2 h4
theorem spec_FlipLoss.tail_any (l : List ByteArray) (hl : l.length ≤ 140737488351232) (s : ByteArray) (a : Int) (hs : s.size ≤ 4294967296) (hb : bitsB s = true) :
    Ev (fun k => (if (s.size : Int) > 400 then (spec_FlipLoss.j2 k l a s true) else ((spec_l00In.f a 0 (wrap64 ((s.size : Int) - 1))).bind fun t137 => (spec_FlipLoss.j2 k l a s (!t137))))) (lossOf l s a) := by
  have hno : Ev (fun k => spec_FlipLoss.j2 k l a s true) (0, 0, false) := by
    refine Ev.step (f := fun _ => some _) (fun k => ?_) (Ev.now _)
    simp only [spec_FlipLoss.j2]
    rw [if_pos trivial]
  unfold lossOf
  by_cases h4 : 400 < s.size
  · rw [if_neg (fun h => by omega)]
    exact Ev.congr (fun k => if_pos (by omega)) hno
  · have e : spec_l00In.f a 0 (wrap64 ((s.size : Int) - 1)) = some (decide (0 ≤ a ∧ a < s.size)) := by
      unfold spec_l00In.f
      rw [wrap64_id (x := (s.size : Int) - 1) (by omega) (by omega)]
      by_cases h0 : 0 ≤ a
      · rw [if_pos h0]
        congr 1
        by_cases h1 : a ≤ (s.size : Int) - 1
        · rw [decide_eq_true h1, decide_eq_true ⟨h0, by omega⟩]
        · rw [decide_eq_false h1, decide_eq_false (fun h => h1 (by omega))]
      · rw [if_neg h0, decide_eq_false (fun h => h0 h.1)]
    refine Ev.congr (fun k => (if_neg (by omega)).trans (by rw [e])) ?_
    by_cases h : 0 ≤ a ∧ a < s.size
    · obtain ⟨p, rfl⟩ : ∃ p : Nat, a = p := ⟨a.toNat, by omega⟩
      rw [decide_eq_true h, if_pos ⟨by omega, h⟩, Int.toNat_natCast]
      exact spec_FlipLoss.j2_any l hl s p (by omega) (by omega) hb
    · rw [decide_eq_false h, if_neg (fun h' => h h'.2)]
      exact hno
theorem spec_FlipLoss.l0_any (l : List ByteArray) (hc : isCode l = true) (xs : List Int) (a : Int) (hx : xs.length ≤ 400) : ∀ (d i : Nat) (s : ByteArray), i + d = xs.length → s.size ≤ 12 * i → bitsB s = true →
    Ev (fun k => spec_FlipLoss.l0 k l xs a s (i : Int)) (if okSyms l (xs.drop i) = true then lossOf l (cat l (xs.drop i) s) a else (0, 0, false))
  | 0, i, s, hi, hs, hb => by
    have hlen := code_len hc
    rw [List.drop_eq_nil_of_le (by omega), if_pos (show okSyms l [] = true from rfl)]
    refine Ev.step (f := fun k => (if (s.size : Int) > 400 then (spec_FlipLoss.j2 k l a s true) else ((spec_l00In.f a 0 (wrap64 ((s.size : Int) - 1))).bind fun t137 => (spec_FlipLoss.j2 k l a s (!t137))))) (fun k => ?_) (spec_FlipLoss.tail_any l (by omega) s a (by omega) hb)
    simp only [spec_FlipLoss.l0]
    rw [if_neg (by omega)]
  | d + 1, i, s, hi, hs, hb => by
    have hlen := code_len hc
    have hlt : i < xs.length := by omega
    have e : spec_l00In.f xs[i] 0 (wrap64 ((l.length : Int) - 1)) = some (decide (0 ≤ xs[i]) && decide (xs[i] ≤ (l.length : Int) - 1)) := by
      unfold spec_l00In.f
      rw [wrap64_id (x := (l.length : Int) - 1) (by omega) (by omega)]
      by_cases h0 : 0 ≤ xs[i]
      · rw [if_pos h0, decide_eq_true h0]; rfl
      · rw [if_neg h0, decide_eq_false h0]; rfl
    have ho : okSyms l (xs.drop i) = ((decide (0 ≤ xs[i]) && decide (xs[i] ≤ (l.length : Int) - 1)) && okSyms l (xs.drop (i + 1))) := by
      rw [drop_at _ i hlt]; rfl
    rw [ho]
    by_cases hv : 0 ≤ xs[i] ∧ xs[i] ≤ (l.length : Int) - 1
    · rw [decide_eq_true hv.1, decide_eq_true hv.2] at e ⊢
      obtain ⟨n, hn⟩ : ∃ n : Nat, xs[i] = n := ⟨xs[i].toNat, by omega⟩
      have hnl : n < l.length := by omega
      have hw := code_word hc (List.getElem_mem hnl)
      have ih := spec_FlipLoss.l0_any l hc xs a hx d (i + 1) (s ++ l[n]) (by omega) (by rw [ByteArray.size_append]; omega) (by rw [bits_append, hb, hw.2.2]; rfl)
      refine Ev.step (f := fun k => spec_FlipLoss.l0 k l xs a (s ++ l[n]) ((i + 1 : Nat) : Int)) (fun k => ?_) ?_
      · simp only [spec_FlipLoss.l0]
        rw [if_pos (by omega), if_pos (by omega), rd_at _ _ hlt, e]
        simp only [Option.bind_some]
        rw [if_pos (by rfl), if_pos (by omega), if_pos (by omega), hn, rdOf_at _ _ _ hnl, if_pos (by omega), wrap64_id (x := (i : Int) + 1) (by omega) (by omega)]
        rfl
      · rw [drop_at _ i hlt]
        simp only [cat, Bool.true_and]
        rw [hn, rdOf_at _ _ _ hnl]
        exact ih
    · have hf : (decide (0 ≤ xs[i]) && decide (xs[i] ≤ (l.length : Int) - 1)) = false := by
        by_cases h0 : 0 ≤ xs[i]
        · rw [decide_eq_false (show ¬ xs[i] ≤ (l.length : Int) - 1 from fun h => hv ⟨h0, h⟩), Bool.and_false]
        · rw [decide_eq_false h0, Bool.false_and]
      rw [hf] at e ⊢
      refine Ev.step (f := fun _ => some (0, 0, false)) (fun k => ?_) (Ev.now _)
      simp only [spec_FlipLoss.l0]
      rw [if_pos (by omega), if_pos (by omega), rd_at _ _ hlt, e]
      rfl
theorem spec_FlipLoss.any (l : List ByteArray) (xs : List Int) (a : Int) (hl : l.length ≤ 140737488351232) (hz : ∀ s ∈ l, s.size ≤ 9223372036854775806) (hx : xs.length ≤ 140737488351232) : Ev (fun k => spec_FlipLoss.f k l xs a) (flipLoss l xs a) := by
  have hno : Ev (fun k => spec_FlipLoss.j0 k l xs a true) (0, 0, false) := by
    refine Ev.step (f := fun _ => some _) (fun k => ?_) (Ev.now _)
    simp only [spec_FlipLoss.j0]
    rw [if_pos trivial]
  unfold spec_FlipLoss.f flipLoss
  refine Ev.bind (spec_l05Is.any l hl hz) ?_
  cases hc : isCode l
  · rw [if_neg (fun h => by have := h.1; unfold isComplete at this; rw [hc] at this; cases this)]
    exact Ev.congr (fun k => if_neg (by decide)) hno
  · refine Ev.congr (fun k => if_pos rfl) ?_
    by_cases h2 : l.length < 2
    · rw [if_neg (fun h => by omega)]
      exact Ev.congr (fun k => if_pos (by omega)) hno
    · refine Ev.congr (fun k => if_neg (by omega)) (Ev.bind (spec_l05Complete.any l hl (fun s h => (code_word hc h).2.1)) ?_)
      have hcc : isComplete l = (isPre l && kgo l 0 == 4096) := by unfold isComplete; rw [hc, Bool.true_and]
      rw [← hcc]
      cases h3 : isComplete l
      · rw [if_neg (fun h => by cases h.1)]
        exact Ev.congr (fun k => if_neg (by decide)) hno
      · refine Ev.congr (fun k => if_pos rfl) ?_
        by_cases h4 : 400 < xs.length
        · rw [decide_eq_true (show (xs.length : Int) > 400 by omega), if_neg (fun h => by omega)]
          exact hno
        · rw [decide_eq_false (show ¬ (xs.length : Int) > 400 by omega)]
          have h5 := spec_FlipLoss.l0_any l hc xs a (by omega) xs.length 0 ⟨#[]⟩ (by omega) (by show 0 ≤ _; omega) rfl
          rw [List.drop_zero] at h5
          have e : (if true = true ∧ 2 ≤ l.length ∧ xs.length ≤ 400 ∧ okSyms l xs = true then lossOf l (cat l xs ⟨#[]⟩) a else (0, 0, false)) = (if okSyms l xs = true then lossOf l (cat l xs ⟨#[]⟩) a else (0, 0, false)) := by
            by_cases ho : okSyms l xs = true
            · rw [if_pos ⟨rfl, by omega, by omega, ho⟩, if_pos ho]
            · rw [if_neg (fun h => ho h.2.2.2), if_neg ho]
          rw [e]
          refine Ev.step (f := fun k => spec_FlipLoss.l0 k l xs a ⟨#[]⟩ ((0 : Nat) : Int)) (fun k => ?_) h5
          simp only [spec_FlipLoss.j0]
          rw [if_neg (by decide)]
          rfl
end
section
/-! ### laws_toStringS: function 7 -/
def laws_toStringS.l0 : Nat → List ByteArray → List ByteArray → Int → Option (List ByteArray)
  | 0, _, _, _ => none
  | k + 1, x0, x3, x4 => if x4 < (x0.length : Int) then (if 0 ≤ x4 then (if x4 < (x3.length : Int) then (laws_toStringS.l0 k x0 (x3.set (x4 : Int).toNat (rdOf ByteArray.empty x0 x4)) (wrap64 (x4 + 1))) else (none)) else (none)) else (some x3)
def laws_toStringS.f (k : Nat) (l0 : List ByteArray) : Option (List ByteArray) := if 0 ≤ (l0.length : Int) then (if ((l0.length : Int) : Int).toNat ≤ 17592186044416 then (laws_toStringS.l0 k l0 (List.replicate ((l0.length : Int) : Int).toNat (⟨#[]⟩ : ByteArray)) 0) else (none)) else (none)
theorem laws_toStringS.mono_l : ∀ k, (∀ y0 y1 y2, LeO (laws_toStringS.l0 k y0 y1 y2) (laws_toStringS.l0 (k + 1) y0 y1 y2))
  | 0 => fun _ _ _ r h => by simp [laws_toStringS.l0] at h
  | k + 1 => by
    have ih0 := laws_toStringS.mono_l k
    · intro y0 y1 y2
      unfold laws_toStringS.l0
      repeat' first
      | (with_reducible exact ih0 _ _ _)
      | (with_reducible exact LeO.refl _)
      | (with_reducible exact LeO.none _)
      | (with_reducible refine LeO.ite ?_ ?_)
      | (with_reducible refine LeO.bind ?_ (fun _ => ?_))
      | exact ih0 _ _ _
      | exact LeO.none _
      | refine LeO.ite ?_ ?_
      | refine LeO.bind ?_ (fun _ => ?_)
theorem laws_toStringS.mono : ∀ a0 k, LeO (laws_toStringS.f k a0) (laws_toStringS.f (k + 1) a0) := by
  intro a0 k
  have ih0 := laws_toStringS.mono_l k
  unfold laws_toStringS.f
  repeat' first
      | (with_reducible exact ih0 _ _ _)
      | (with_reducible exact LeO.refl _)
      | (with_reducible exact LeO.none _)
      | (with_reducible refine LeO.ite ?_ ?_)
      | (with_reducible refine LeO.bind ?_ (fun _ => ?_))
      | exact ih0 _ _ _
      | exact LeO.none _
      | refine LeO.ite ?_ ?_
      | refine LeO.bind ?_ (fun _ => ?_)
set_option maxHeartbeats 8000000 in
set_option maxRecDepth 100000 in
theorem laws_toStringS.calls (k : Nat) (A0 : Option Addr) (c0 : Nat) (l0 : List ByteArray) (r : List ByteArray) (w : World) (hr0 : Kd.C Kd.string w A0 l0.length l0) (hc0 : l0.length ≤ c0) (h : laws_toStringS.f k l0 = some r) :
    Calls Tryd.prog 7 #[.slice A0 l0.length c0] w fun e w' => ∃ v0_ : Value, e = .returned (v0_) ∧ Kd.R Kd.string 9 w' w.heap.size (fun _ => True) v0_ r ∧ Below w.heap.size w w' := by
  have HR0 := Aside0.mk hr0
  have HC0 := Aside0.mk hc0
  clear hr0 hc0
  have HB := Aside0.mk (Below.refl w.heap.size w)
  have H : (if 0 ≤ (l0.length : Int) then (if ((l0.length : Int) : Int).toNat ≤ 17592186044416 then (laws_toStringS.l0 k l0 (List.replicate ((l0.length : Int) : Int).toNat (⟨#[]⟩ : ByteArray)) 0) else (none)) else (none)) = some r := h
  clear h
  by_cases c2 : 0 ≤ (l0.length : Int)
  · rw [if_pos c2] at H
    have c2b0 := eq_true c2
    have c2b1 : decide (0 ≤ (l0.length : Int)) = true := decide_eq_true c2
    clear c2
    by_cases c3 : ((l0.length : Int) : Int).toNat ≤ 17592186044416
    · rw [if_pos c3] at H
      have c3b0 := eq_true c3
      have c3b1 : decide (((l0.length : Int) : Int).toNat ≤ 17592186044416) = true := decide_eq_true c3
      clear c3
      obtain ⟨y149, hy149⟩ : ∃ y_ : List ByteArray, y_ = (List.replicate ((l0.length : Int) : Int).toNat (⟨#[]⟩ : ByteArray)) := ⟨_, rfl⟩
      replace H : (laws_toStringS.l0 k l0 y149 0) = some r := by first | (rw [hy149]; with_reducible exact H) | (have H2_ := (Option.bind_some _ _).symm.trans H; rw [hy149]; with_reducible exact H2_) | (have H2_ := (Option.bind_some _ _).symm.trans H; with_reducible exact H2_) | with_reducible exact H | (rw [hy149]; exact H) | exact H
      have Ny149 := Aside0.mk hy149
      clear hy149
      have H' := Aside0.mk H
      clear H
      go_enter Tryd.func7, Tryd.ntmps7
      go_wp2_with (first | ((with_reducible refine gate_dst (N := 7) rfl ?_); refine Kd.R_make Kd.string _ 9 rfl (N := 7) rfl 22 _ _ rfl (l0.length : Int) rfl rfl Tryd.underlying22 (.string ⟨#[]⟩) 16 info9 rfl (by decide) (by omega) (⟨#[]⟩ : ByteArray) (ok := fun _ => True) (okp := fun _ => True) rfl (fun _ hk => hk) trivial (of_decide_eq_true (by first | (with_reducible assumption) | assumption)) (Nat.le_trans (Nat.mul_le_mul_right _ (of_decide_eq_true (by first | (with_reducible assumption) | assumption) : (l0.length : Int).toNat ≤ 17592186044416)) (by omega)) (Below.refl _ _) (Nat.le_refl _) ?_; intro v150 w4 ho5 hb hg_ hnew_; clear hg_ hnew_; (first | rw [← Ny149.out] at ho5 | (simp only [Int.reduceToNat] at ho5; rw [← Ny149.out] at ho5)); have n0_ := Aside0.mk (Kd.R_lower ho5 (below_size (by repeat (first | (with_reducible first | exact HB.out | apply below_alloc | apply pw_below_drewN | apply below_drew1) | exact HB.out)))); have n1_ := Aside0.mk (below_step (by repeat (first | (with_reducible first | exact HB.out | apply below_alloc | apply pw_below_drewN | apply below_drew1) | exact HB.out)) hb); clear HB; have HO151 := n0_; have HB := n1_; clear n0_ n1_; clear hb ho5))
      go_loopg [4] k (fun kq v4 w' => ∃ (x3_1 : List ByteArray) (x4_1 : Int), v4 = .int .i64 x4_1 ∧ Aside0 (laws_toStringS.l0 kq l0 x3_1 x4_1 = some r) ∧ Aside0 (kq ≤ k) ∧ Aside0 (Kd.R Kd.string 9 w' w.heap.size (fun _ => True) v150 x3_1) ∧ Aside0 (Below w.heap.size w w'))
      case atStart => exact ⟨(y149), (0), (by first | rfl | (simp; done) | (simp [*]; done)), H', ⟨Nat.le_refl _⟩, ⟨by (with_reducible repeat (first | apply Kd.R_alloc | apply Kd.R_drewN | apply Kd.R_drew)); exact HO151.out⟩, ⟨by repeat (first | (with_reducible first | exact HB.out | apply below_alloc | apply pw_below_drewN | apply below_drew1) | exact HB.out)⟩⟩
      case round =>
        clear H'
        try clear c2
        try clear c2b0
        try clear c2b1
        try clear p2
        try clear c3
        try clear c3b0
        try clear c3b1
        obtain ⟨x3_1, x4_1, rfl, HA, HK1, HO_3, HB⟩ := hrel
        cases gk with
        | zero => exact absurd HA.out (by simp [laws_toStringS.l0])
        | succ k1 =>
          have H := HA.out
          clear HA
          simp only [laws_toStringS.l0] at H
          by_cases c6 : x4_1 < (l0.length : Int)
          · rw [if_pos c6] at H
            have c6b0 : decide (x4_1 < (l0.length : Int)) = true := decide_eq_true c6
            clear c6
            by_cases c7 : 0 ≤ x4_1
            · rw [if_pos c7] at H
              have c7b0 : decide (0 ≤ x4_1) = true := decide_eq_true c7
              clear c7
              by_cases c8 : x4_1 < (x3_1.length : Int)
              · rw [if_pos c8] at H
                have c8b0 : decide (x4_1 < (x3_1.length : Int)) = true := decide_eq_true c8
                clear c8
                obtain ⟨y153, hy153⟩ : ∃ y_ : List ByteArray, y_ = (x3_1.set (x4_1 : Int).toNat (rdOf ByteArray.empty l0 x4_1)) := ⟨_, rfl⟩
                replace H : (laws_toStringS.l0 k1 l0 y153 (wrap64 (x4_1 + 1))) = some r := by first | (rw [hy153]; with_reducible exact H) | (have H2_ := (Option.bind_some _ _).symm.trans H; rw [hy153]; with_reducible exact H2_) | (have H2_ := (Option.bind_some _ _).symm.trans H; with_reducible exact H2_) | with_reducible exact H | (rw [hy153]; exact H) | exact H
                have Ny153 := Aside0.mk hy153
                clear hy153
                have H' := Aside0.mk H
                clear H
                have p152 : 0 ≤ (x4_1 : Int) := of_decide_eq_true (by first | (with_reducible assumption) | assumption)
                have q152 : x4_1 < (l0.length : Int) := of_decide_eq_true (by first | (with_reducible assumption) | assumption)
                obtain ⟨ad152, e152, hx152_0⟩ := Kd.at_string HR0.out x4_1 p152 q152
                cases e152
                replace hx152_0 := (HB.out.cell (World.block_lt_of_cell? w _ hx152_0)).trans hx152_0
                replace p152 := eq_true p152
                replace q152 := eq_true q152
                have p9 : 0 ≤ (x4_1 : Int) := of_decide_eq_true (by first | (with_reducible assumption) | assumption)
                have q9 : (x4_1 : Int) < ((x3_1.length : Int) : Int) := of_decide_eq_true (by first | (with_reducible assumption) | assumption)
                obtain ⟨go9, co9, eo9, gb9, gl9, cl9, HG9⟩ := Kd.R_form HO_3.out (by omega)
                (first | cases eo9 | (injection eo9 with ea_ en_ ec_; (first | subst ea_ | (injection ea_ with ea_; subst ea_)); subst ec_; clear en_))
                have GB9 := Aside0.mk gb9
                have GG9 := Aside0.mk HG9
                clear gb9 gl9 HG9
                obtain ⟨hx9_0, hf9_0⟩ := Kd.R_celln (⟨#[]⟩ : ByteArray) HO_3.out (x4_1 : Int) p9 q9
                replace p9 := eq_true p9
                replace q9 := eq_true q9
                have HP10 := Kd.R_putg HO_3.out (x4_1 : Int) (rdOf ByteArray.empty l0 x4_1)
                go_wp2_with (first | ((with_reducible refine gate_store (t := 9) (p := 20) rfl ?_); refine store_event (t := 9) (p := 20) (v := ?vo_w11) (w1 := (wr.setCell ⟨go9, (x4_1 : Int).toNat, none⟩ (.string (rdOf ByteArray.empty l0 x4_1)))) ?hg ?ho ?hn ?hr ?_; (case ho => rfl); (case hg => rfl); (case hn => rfl); (case hr => first | (go_simp; done) | (go_simp; rfl)); intro w11 hw; have hg : wr.grownBy w11 (some go9) := (by rw [hw]; exact HP10.2); have hp_ : Kd.R Kd.string 9 w11 w.heap.size (fun _ => True) (.slice (some ⟨go9, 0, none⟩) x3_1.length co9) y153 := (by rw [hw, Ny153.out]; exact HP10.1); clear HP10; have n0_ := Aside0.mk (hp_); have n1_ := Aside0.mk ((by rw [hw]; exact below_set (HB.out) GB9.out : Below w.heap.size w w11)); clear HO_3; clear HB; have HO_3 := n0_; have HB := n1_; clear n0_ n1_; clear hg hw hp_))
                go_roundg k1
                case measure => have := HK1.out; omega
                case rel => exact ⟨(y153), (wrap64 (x4_1 + 1)), (by first | rfl | (simp; done) | (simp [*]; done)), H', ⟨by have := HK1.out; omega⟩, ⟨by (with_reducible repeat (first | apply Kd.R_alloc | apply Kd.R_drewN | apply Kd.R_drew)); exact HO_3.out⟩, ⟨by repeat (first | (with_reducible first | exact HB.out | apply below_alloc | apply pw_below_drewN | apply below_drew1) | exact HB.out)⟩⟩
              · rw [if_neg c8] at H
                exact absurd H (by simp)
            · rw [if_neg c7] at H
              exact absurd H (by simp)
          · rw [if_neg c6] at H
            have c6b0 : decide (x4_1 < (l0.length : Int)) = false := decide_eq_false c6
            clear c6
            obtain rfl := Option.some.inj H
            go_wp2
            go_ret
            exact ⟨_, by first | rfl | (simp [errW_none, errW_some] <;> rfl) | (simp [*, errW_none, errW_some] <;> rfl), by (with_reducible repeat (first | apply Kd.R_alloc | apply Kd.R_drewN | apply Kd.R_drew)); exact HO_3.out, by repeat (first | (with_reducible first | exact HB.out | apply below_alloc | apply pw_below_drewN | apply below_drew1) | exact HB.out)⟩
    · rw [if_neg c3] at H
      exact absurd H (by simp)
  · rw [if_neg c2] at H
    exact absurd H (by simp)
theorem laws_toStringS.l0_any (l0 : List ByteArray) (hl : l0.length ≤ 17592186044416) : ∀ (d i : Nat) (x : List ByteArray), i + d = l0.length → x.length = l0.length → x.take i = l0.take i →
    Ev (fun k => laws_toStringS.l0 k l0 x (i : Int)) l0
  | 0, i, x, hi, hx, ht => by
    refine Ev.step (f := fun _ => some l0) (fun k => ?_) (Ev.now _)
    simp only [laws_toStringS.l0]
    rw [if_neg (by omega)]
    rw [List.take_of_length_le (by omega), List.take_of_length_le (by omega)] at ht
    rw [ht]
  | d + 1, i, x, hi, hx, ht => by
    have hlt : i < l0.length := by omega
    refine Ev.step (f := fun k => laws_toStringS.l0 k l0 (x.set i l0[i]) ((i + 1 : Nat) : Int)) (fun k => ?_) (laws_toStringS.l0_any l0 hl d (i + 1) (x.set i l0[i]) (by omega) (by rw [List.length_set]; exact hx) ?_)
    · simp only [laws_toStringS.l0]
      rw [if_pos (by omega), if_pos (by omega), if_pos (by omega), rdOf_at _ _ _ hlt, wrap64_id (x := (i : Int) + 1) (by omega) (by omega)]
      rfl
    · rw [take_at _ _ hlt, take_at _ _ (by rw [List.length_set]; omega), List.getElem_set_self, List.take_set_of_le (Nat.le_refl _), ht]
theorem laws_toStringS.any (l0 : List ByteArray) (hl : l0.length ≤ 17592186044416) : Ev (fun k => laws_toStringS.f k l0) l0 := by
  refine Ev.congr (f := fun k => laws_toStringS.l0 k l0 (List.replicate l0.length ⟨#[]⟩) ((0 : Nat) : Int)) (fun k => ?_) (laws_toStringS.l0_any l0 hl l0.length 0 _ (by omega) (by simp) rfl)
  unfold laws_toStringS.f
  rw [if_pos (by omega), if_pos (by omega)]
  rfl
end
end Go.Proofs.YtainlbmedpljlaaDoor.G
