-- written by this claim's own program out of the translation
import Derived.Test.YtbbchbmoaahidaaDoorG0
import Derived.Test.YtbbchbmoaahidaaDoorGImplWithin
import Derived.Test.YtbbchbmoaahidaaDoorGImplCheckOf
import Derived.Test.YtbbchbmoaahidaaDoorGImplJournalOf
import Derived.Test.YtbbchbmoaahidaaDoorGImplDecimal
import Derived.Test.YtbbchbmoaahidaaDoorGStringsIndexByte
import Derived.Test.YtbbchbmoaahidaaDoorGStringsCut
namespace Go.Proofs.YtbbchbmoaahidaaDoor.G
open Go.RowKit Go.Proofs.YtbbchbmoaahidaaDoorW.PrintWords Go.Proofs.YtbbchbmoaahidaaDoorW.PrintLast Go.Proofs.YtbbchbmoaahidaaDoorW.PrintMore
attribute [local go_sem] max2_int min2_int max_two min_two max_three min_three max_four min_four   -- for this text's walks alone
set_option linter.unusedVariables false
set_option linter.unusedSimpArgs false

/-! ### impl_RecoverJournal: function 25 -/
def impl_RecoverJournal.l0 : Nat → ByteArray → List ByteArray → Int → Int → Option (List ByteArray × Int × Bool)
  | 0, _, _, _, _ => none
  | k + 1, x0, x5, x6, x7 => if 0 ≤ x7 then (if x7 ≤ (x0.size : Int) then ((strings_IndexByte.f (x0.extract (x7 : Int).toNat x0.size) 10).bind fun t240 => (if t240 < 0 then (some (x5, x7, true)) else (if x7 ≤ (wrap64 (x7 + t240)) then (if (wrap64 (x7 + t240)) ≤ (x0.size : Int) then ((strings_Cut.f (x0.extract (x7 : Int).toNat ((wrap64 (x7 + t240)) : Int).toNat) (⟨#[32]⟩ : ByteArray)).bind fun bt241 => ((impl_CheckOf.f k x6 bt241.2.1).bind fun bt244 => (if bt241.2.2 = true then ((impl_Decimal.f bt244.1).bind fun t246 => (if bt241.1.toList = t246.toList then (if x5.length < 8796093022208 then (impl_RecoverJournal.l0 k x0 (x5 ++ [bt241.2.1]) bt244.1 (wrap64 (x7 + (wrap64 (t240 + 1))))) else (none)) else (some (x5, x7, true)))) else (some (x5, x7, true))))) else (none)) else (none)))) else (none)) else (none)
def impl_RecoverJournal.f (k : Nat) (a0 : ByteArray) : Option (List ByteArray × Int × Bool) := if (a0.size : Int) > 4000 then (some (([] : List ByteArray), 0, false)) else (impl_RecoverJournal.l0 k a0 (([] : List ByteArray)) 0 0)
theorem impl_RecoverJournal.mono_l : ∀ k, (∀ y0 y1 y2 y3, LeO (impl_RecoverJournal.l0 k y0 y1 y2 y3) (impl_RecoverJournal.l0 (k + 1) y0 y1 y2 y3))
  | 0 => fun _ _ _ _ r h => by simp [impl_RecoverJournal.l0] at h
  | k + 1 => by
    have ih0 := impl_RecoverJournal.mono_l k
    · intro y0 y1 y2 y3
      unfold impl_RecoverJournal.l0
      repeat' first
      | (with_reducible exact ih0 _ _ _ _)
      | (with_reducible exact impl_CheckOf.mono _ _ _)
      | (with_reducible exact LeO.refl _)
      | (with_reducible exact LeO.none _)
      | (with_reducible refine LeO.ite ?_ ?_)
      | (with_reducible refine LeO.bind ?_ (fun _ => ?_))
      | exact ih0 _ _ _ _
      | exact impl_CheckOf.mono _ _ _
      | exact LeO.none _
      | refine LeO.ite ?_ ?_
      | refine LeO.bind ?_ (fun _ => ?_)
theorem impl_RecoverJournal.mono : ∀ a0 k, LeO (impl_RecoverJournal.f k a0) (impl_RecoverJournal.f (k + 1) a0) := by
  intro a0 k
  have ih0 := impl_RecoverJournal.mono_l k
  unfold impl_RecoverJournal.f
  repeat' first
      | (with_reducible exact ih0 _ _ _ _)
      | (with_reducible exact impl_CheckOf.mono _ _ _)
      | (with_reducible exact LeO.refl _)
      | (with_reducible exact LeO.none _)
      | (with_reducible refine LeO.ite ?_ ?_)
      | (with_reducible refine LeO.bind ?_ (fun _ => ?_))
      | exact ih0 _ _ _ _
      | exact impl_CheckOf.mono _ _ _
      | exact LeO.none _
      | refine LeO.ite ?_ ?_
      | refine LeO.bind ?_ (fun _ => ?_)
set_option maxHeartbeats 8000000 in
set_option maxRecDepth 100000 in
theorem impl_RecoverJournal.calls (k : Nat) (a0 : ByteArray) (r1 : List ByteArray) (r2 : Int) (r3 : Bool) (w : World) (hT : Tabs w) (h : impl_RecoverJournal.f k a0 = some (r1, r2, r3)) :
    Calls Tryd.prog 25 #[.string a0] w fun e w' => ∃ v0_ : Value, e = .returned (.tuple #[v0_, .int .i64 r2, .bool r3]) ∧ Kd.R Kd.string 9 w' w.heap.size (fun _ => True) v0_ r1 ∧ Below w.heap.size w w' := by
  have HT := Aside0.mk hT
  clear hT
  have HB := Aside0.mk (Below.refl w.heap.size w)
  have H : (if (a0.size : Int) > 4000 then (some (([] : List ByteArray), 0, false)) else (impl_RecoverJournal.l0 k a0 (([] : List ByteArray)) 0 0)) = some (r1, r2, r3) := h
  clear h
  by_cases c2 : (a0.size : Int) > 4000
  · rw [if_pos c2] at H
    have c2b0 : decide (4000 < (a0.size : Int)) = true := decide_eq_true c2
    have c2b1 : decide (4000 < a0.size) = true := decide_eq_true (by omega)
    clear c2
    simp only [Option.some.injEq, Prod.mk.injEq] at H
    obtain ⟨rfl, rfl, rfl⟩ := H
    go_enter Tryd.func25, Tryd.ntmps25
    go_wp2
    go_ret3
    exact ⟨_, by first | rfl | (simp [errW_none, errW_some] <;> rfl) | (simp [*, errW_none, errW_some] <;> rfl), by first | exact Kd.R_nil _ _ _ _ _ | exact Kd.N_nil _ _ _ _ _ | exact Kd.V_nil _ _ _ _ _ | exact Kd.Q_nil _ _ _ _ _ | exact Kd.S_nil _ _ _ _ _, by repeat (first | (with_reducible first | exact HB.out | apply below_alloc | apply pw_below_drewN | apply below_drew1) | exact HB.out)⟩
  · rw [if_neg c2] at H
    have c2b0 : decide (4000 < (a0.size : Int)) = false := decide_eq_false c2
    have c2b1 : decide (4000 < a0.size) = false := decide_eq_false (by omega)
    clear c2
    obtain ⟨y237, hy237⟩ : ∃ y_ : List ByteArray, y_ = (([] : List ByteArray)) := ⟨_, rfl⟩
    replace H : (impl_RecoverJournal.l0 k a0 y237 0 0) = some (r1, r2, r3) := by first | (rw [hy237]; with_reducible exact H) | (have H2_ := (Option.bind_some _ _).symm.trans H; rw [hy237]; with_reducible exact H2_) | (have H2_ := (Option.bind_some _ _).symm.trans H; with_reducible exact H2_) | with_reducible exact H | (rw [hy237]; exact H) | exact H
    have Ny237 := Aside0.mk hy237
    clear hy237
    have H' := Aside0.mk H
    clear H
    go_enter Tryd.func25, Tryd.ntmps25
    go_wp2_with (first | ((with_reducible refine gate_dst (N := 17) rfl ?_); refine Kd.R_lit Kd.string _ 9 ?hg (N := 17) ?hd (xs := ([] : List ByteArray)) (inner := []) (ok := fun _ => True) (okp := fun _ => True) ?hr ?hp (fun _ hk => hk) trivial (Below.refl _ _) (Nat.le_refl _) (by simp) ?_; (case hd => rfl); (case hg => rfl); (case hr => first | (go_simp; done) | (go_simp; rfl)); (case hp => exact (Reps.none _ _)); intro v238 w3 ho4 hb hg_ hnew_; clear hg_ hnew_; (first | rw [← Ny237.out] at ho4 | (simp only [Int.reduceToNat] at ho4; rw [← Ny237.out] at ho4)); have n0_ := Aside0.mk (Kd.R_lower ho4 (below_size (by repeat (first | (with_reducible first | exact HB.out | apply below_alloc | apply pw_below_drewN | apply below_drew1) | exact HB.out)))); have n1_ := Aside0.mk (below_step (by repeat (first | (with_reducible first | exact HB.out | apply below_alloc | apply pw_below_drewN | apply below_drew1) | exact HB.out)) hb); clear HB; have HO239 := n0_; have HB := n1_; clear n0_ n1_; clear hb ho4))
    go_loopg [5, 6, 7] k (fun kq v5 v6 v7 w' => ∃ (x5_1 : List ByteArray) (x6_1 : Int) (x7_1 : Int), v6 = .int .i64 x6_1 ∧ v7 = .int .i64 x7_1 ∧ Aside0 (impl_RecoverJournal.l0 kq a0 x5_1 x6_1 x7_1 = some (r1, r2, r3)) ∧ Aside0 (kq ≤ k) ∧ Aside0 (Kd.R Kd.string 9 w' w.heap.size (fun _ => True) v5 x5_1) ∧ Aside0 (Below w.heap.size w w'))
    case atStart => exact ⟨(y237), (0), (0), (by first | rfl | (simp; done) | (simp [*]; done)), (by first | rfl | (simp; done) | (simp [*]; done)), H', ⟨Nat.le_refl _⟩, ⟨by (with_reducible repeat (first | apply Kd.R_alloc | apply Kd.R_drewN | apply Kd.R_drew)); exact HO239.out⟩, ⟨by repeat (first | (with_reducible first | exact HB.out | apply below_alloc | apply pw_below_drewN | apply below_drew1) | exact HB.out)⟩⟩
    case round =>
      clear H'
      try clear c2
      try clear c2b0
      try clear c2b1
      try clear p2
      obtain ⟨x5_1, x6_1, x7_1, rfl, rfl, HA, HK1, HO_5, HB⟩ := hrel
      cases gk with
      | zero => exact absurd HA.out (by simp [impl_RecoverJournal.l0])
      | succ k1 =>
        have H := HA.out
        clear HA
        simp only [impl_RecoverJournal.l0] at H
        by_cases c5 : 0 ≤ x7_1
        · rw [if_pos c5] at H
          have c5b0 := eq_true c5
          have c5b1 : decide (0 ≤ x7_1) = true := decide_eq_true c5
          clear c5
          by_cases c6 : x7_1 ≤ (a0.size : Int)
          · rw [if_pos c6] at H
            have c6b0 := eq_true c6
            have c6b1 : decide (x7_1 ≤ (a0.size : Int)) = true := decide_eq_true c6
            clear c6
            replace H := Option.bind_eq_some_iff.mp H
            obtain ⟨t240, A70, H⟩ := H
            replace H : (if t240 < 0 then (some (x5_1, x7_1, true)) else (if x7_1 ≤ (wrap64 (x7_1 + t240)) then (if (wrap64 (x7_1 + t240)) ≤ (a0.size : Int) then ((strings_Cut.f (a0.extract (x7_1 : Int).toNat ((wrap64 (x7_1 + t240)) : Int).toNat) (⟨#[32]⟩ : ByteArray)).bind fun bt241 => ((impl_CheckOf.f k1 x6_1 bt241.2.1).bind fun bt244 => (if bt241.2.2 = true then ((impl_Decimal.f bt244.1).bind fun t246 => (if bt241.1.toList = t246.toList then (if x5_1.length < 8796093022208 then (impl_RecoverJournal.l0 k1 a0 (x5_1 ++ [bt241.2.1]) bt244.1 (wrap64 (x7_1 + (wrap64 (t240 + 1))))) else (none)) else (some (x5_1, x7_1, true)))) else (some (x5_1, x7_1, true))))) else (none)) else (none))) = some (r1, r2, r3) := H
            have A7 := Aside0.mk A70
            clear A70
            by_cases c8 : t240 < 0
            · rw [if_pos c8] at H
              have c8b0 : decide (t240 < 0) = true := decide_eq_true c8
              clear c8
              simp only [Option.some.injEq, Prod.mk.injEq] at H
              obtain ⟨rfl, rfl, rfl⟩ := H
              go_wp2_with (first | ((with_reducible refine gate_callee (f := 48) rfl ?_); refine goesL_ (some 21) rfl rfl Tryd.func48 (by kernel_rfl) rfl #[.string (a0.extract (x7_1 : Int).toNat a0.size), .int .u8 10] rfl (by (try simp only [List.map_toArray, List.map_cons, List.map_nil]); first | done | rfl | (simp only [List.length_drop, List.length_take]; rfl)) ?_; (with_reducible refine (strings_IndexByte.calls (a0.extract (x7_1 : Int).toNat a0.size) 10 t240 _ A7.out).mono ?_); rintro e w' ⟨rfl, ⟨nd, rfl⟩⟩; refine ⟨_, rfl, ?_⟩))
              go_ret3
              exact ⟨_, by first | rfl | (simp [errW_none, errW_some] <;> rfl) | (simp [*, errW_none, errW_some] <;> rfl), by (with_reducible repeat (first | apply Kd.R_alloc | apply Kd.R_drewN | apply Kd.R_drew)); exact HO_5.out, by repeat (first | (with_reducible first | exact HB.out | apply below_alloc | apply pw_below_drewN | apply below_drew1) | exact HB.out)⟩
            · rw [if_neg c8] at H
              have c8b0 : decide (t240 < 0) = false := decide_eq_false c8
              clear c8
              have c9b0 := eq_true (of_decide_eq_true (by first | (with_reducible assumption) | assumption) : 0 ≤ x7_1)
              by_cases c10 : x7_1 ≤ (wrap64 (x7_1 + t240))
              · rw [if_pos c10] at H
                have c10b0 := eq_true c10
                have c10b1 : decide (x7_1 ≤ (wrap64 (x7_1 + t240))) = true := decide_eq_true c10
                by_cases c11 : (wrap64 (x7_1 + t240)) ≤ (a0.size : Int)
                · rw [if_pos c11] at H
                  have c11b0 := eq_true c11
                  have c11b1 : decide ((wrap64 (x7_1 + t240)) ≤ (a0.size : Int)) = true := decide_eq_true c11
                  replace H := Option.bind_eq_some_iff.mp H
                  obtain ⟨⟨t241, t242, t243⟩, A120, H⟩ := H
                  replace H : ((impl_CheckOf.f k1 x6_1 t242).bind fun bt244 => (if t243 = true then ((impl_Decimal.f bt244.1).bind fun t246 => (if t241.toList = t246.toList then (if x5_1.length < 8796093022208 then (impl_RecoverJournal.l0 k1 a0 (x5_1 ++ [t242]) bt244.1 (wrap64 (x7_1 + (wrap64 (t240 + 1))))) else (none)) else (some (x5_1, x7_1, true)))) else (some (x5_1, x7_1, true)))) = some (r1, r2, r3) := H
                  have A12 := Aside0.mk A120
                  clear A120
                  replace H := Option.bind_eq_some_iff.mp H
                  obtain ⟨⟨t244, t245⟩, A130, H⟩ := H
                  replace H : (if t243 = true then ((impl_Decimal.f t244).bind fun t246 => (if t241.toList = t246.toList then (if x5_1.length < 8796093022208 then (impl_RecoverJournal.l0 k1 a0 (x5_1 ++ [t242]) t244 (wrap64 (x7_1 + (wrap64 (t240 + 1))))) else (none)) else (some (x5_1, x7_1, true)))) else (some (x5_1, x7_1, true))) = some (r1, r2, r3) := H
                  have A13 := Aside0.mk A130
                  clear A130
                  by_cases c14 : t243 = true
                  · subst c14
                    have H1 : ((impl_Decimal.f t244).bind fun t246 => (if t241.toList = t246.toList then (if x5_1.length < 8796093022208 then (impl_RecoverJournal.l0 k1 a0 (x5_1 ++ [t242]) t244 (wrap64 (x7_1 + (wrap64 (t240 + 1))))) else (none)) else (some (x5_1, x7_1, true)))) = some (r1, r2, r3) := by rw [if_pos rfl] at H; exact H
                    clear H
                    have H := H1
                    clear H1
                    replace H := Option.bind_eq_some_iff.mp H
                    obtain ⟨t246, A150, H⟩ := H
                    replace H : (if t241.toList = t246.toList then (if x5_1.length < 8796093022208 then (impl_RecoverJournal.l0 k1 a0 (x5_1 ++ [t242]) t244 (wrap64 (x7_1 + (wrap64 (t240 + 1))))) else (none)) else (some (x5_1, x7_1, true))) = some (r1, r2, r3) := H
                    have A15 := Aside0.mk A150
                    clear A150
                    by_cases c16 : t241.toList = t246.toList
                    · rw [if_pos c16] at H
                      have c16b0 : (t241.toList == t246.toList) = true := beq_iff_eq.mpr c16
                      have c16b1 : (t241.toList != t246.toList) = false := bne_eq_false_iff_eq.mpr c16
                      clear c16
                      by_cases c17 : x5_1.length < 8796093022208
                      · rw [if_pos c17] at H
                        have LMc17 := Aside0.mk c17
                        clear c17
                        obtain ⟨y247, hy247⟩ : ∃ y_ : List ByteArray, y_ = (x5_1 ++ [t242]) := ⟨_, rfl⟩
                        replace H : (impl_RecoverJournal.l0 k1 a0 y247 t244 (wrap64 (x7_1 + (wrap64 (t240 + 1))))) = some (r1, r2, r3) := by first | (rw [hy247]; with_reducible exact H) | (have H2_ := (Option.bind_some _ _).symm.trans H; rw [hy247]; with_reducible exact H2_) | (have H2_ := (Option.bind_some _ _).symm.trans H; with_reducible exact H2_) | with_reducible exact H | (rw [hy247]; exact H) | exact H
                        have Ny247 := Aside0.mk hy247
                        clear hy247
                        have H' := Aside0.mk H
                        clear H
                        go_wp2_with (first | ((with_reducible refine gate_callee (f := 48) rfl ?_); refine goesL_ (some 21) rfl rfl Tryd.func48 (by kernel_rfl) rfl #[.string (a0.extract (x7_1 : Int).toNat a0.size), .int .u8 10] rfl (by (try simp only [List.map_toArray, List.map_cons, List.map_nil]); first | done | rfl | (simp only [List.length_drop, List.length_take]; rfl)) ?_; (with_reducible refine (strings_IndexByte.calls (a0.extract (x7_1 : Int).toNat a0.size) 10 t240 _ A7.out).mono ?_); rintro e w' ⟨rfl, ⟨nd, rfl⟩⟩; refine ⟨_, rfl, ?_⟩) | ((with_reducible refine gate_callee (f := 49) rfl ?_); refine goesL_ (some 33) rfl rfl Tryd.func49 (by kernel_rfl) rfl #[.string (a0.extract (x7_1 : Int).toNat ((wrap64 (x7_1 + t240)) : Int).toNat), .string (⟨#[32]⟩ : ByteArray)] rfl (by (try simp only [List.map_toArray, List.map_cons, List.map_nil]); first | done | rfl | (simp only [List.length_drop, List.length_take]; rfl)) ?_; (with_reducible refine (strings_Cut.calls (a0.extract (x7_1 : Int).toNat ((wrap64 (x7_1 + t240)) : Int).toNat) (⟨#[32]⟩ : ByteArray) t241 t242 true _ ?side1 A12.out).mono ?_); (case side1 => exact Tabs.below HT.out (by repeat (first | (with_reducible first | exact HB.out | apply below_alloc | apply pw_below_drewN | apply below_drew1) | exact HB.out))); rintro e w' ⟨rfl, ⟨nd, rfl⟩⟩; refine ⟨_, rfl, ?_⟩) | ((with_reducible refine gate_callee (f := 36) rfl ?_); refine goesL_ (some 40) rfl rfl Tryd.func36 (by kernel_rfl) rfl #[.int .i64 x6_1, .string t242] rfl (by (try simp only [List.map_toArray, List.map_cons, List.map_nil]); first | done | rfl | (simp only [List.length_drop, List.length_take]; rfl)) ?_; (with_reducible refine (impl_CheckOf.calls k1 x6_1 t242 t244 t245 _ A13.out).mono ?_); rintro e w' ⟨rfl, ⟨nd, rfl⟩⟩; refine ⟨_, rfl, ?_⟩) | (go_at_call 38; (with_reducible refine (impl_Decimal.calls t244 t246 _ ?side1 A15.out).mono ?_); (case side1 => exact Tabs.below HT.out (by repeat (first | (with_reducible first | exact HB.out | apply below_alloc | apply pw_below_drewN | apply below_drew1) | exact HB.out))); rintro e w18 ⟨rfl, hb⟩; have n0_ := Aside0.mk (Kd.R_below (by (with_reducible repeat (first | apply Kd.R_alloc | apply Kd.R_drewN | apply Kd.R_drew)); exact HO_5.out) hb); have n1_ := Aside0.mk (below_step (by repeat (first | (with_reducible first | exact HB.out | apply below_alloc | apply pw_below_drewN | apply below_drew1) | exact HB.out)) hb); clear HO_5; clear HB; have HO_5 := n0_; have HB := n1_; clear n0_ n1_; (try clear hb); (try clear hb2); (try clear hk); (try clear hi)) | ((with_reducible refine gate_builtin (b := .append) (xs := #[.tmp 53, .tmp 55]) rfl ?_); at_builtin; refine Kd.R_append Kd.string (w0 := w) w.heap.size rfl (.tmp 53) (.tmp 55) 22 9 (.string ⟨#[]⟩) 16 rfl Tryd.underlying22 info9 rfl (by decide) (by omega) u5 x5_1 t242 [.string t242] (fun _ => True) (fun _ => False) rfl rfl ?aP (fun _ hk => hk.elim) ?aF ?aO ?aB ?aS ?aL ?_; (case aP => exact rfl); (case aB => exact (by repeat (first | (with_reducible first | exact HB.out | apply below_alloc | apply pw_below_drewN | apply below_drew1) | exact HB.out))); (case aF => exact (fun _ _ => trivial)); (case aO => exact (by (with_reducible repeat (first | apply Kd.R_alloc | apply Kd.R_drewN | apply Kd.R_drew)); exact HO_5.out)); (case aS => exact (below_size (by repeat (first | (with_reducible first | exact HB.out | apply below_alloc | apply pw_below_drewN | apply below_drew1) | exact HB.out)))); (case aL => have := LMc17.out; omega); intro v248 w19 ho hb hg hat; rw [← Ny247.out] at ho; have n0_ := Aside0.mk (hb); have n1_ := Aside0.mk (ho); clear HB; clear HO_5; have HB := n0_; have HO249 := n1_; clear n0_ n1_; clear ho hb hg hat))
                        go_roundg k1
                        case measure => have := HK1.out; omega
                        case rel => exact ⟨(y247), (t244), (wrap64 (x7_1 + (wrap64 (t240 + 1)))), (by first | rfl | (simp; done) | (simp [*]; done)), (by first | rfl | (simp; done) | (simp [*]; done)), H', ⟨by have := HK1.out; omega⟩, ⟨by (with_reducible repeat (first | apply Kd.R_alloc | apply Kd.R_drewN | apply Kd.R_drew)); exact HO249.out⟩, ⟨by repeat (first | (with_reducible first | exact HB.out | apply below_alloc | apply pw_below_drewN | apply below_drew1) | exact HB.out)⟩⟩
                      · rw [if_neg c17] at H
                        exact absurd H (by simp)
                    · rw [if_neg c16] at H
                      have c16b0 : (t241.toList == t246.toList) = false := beq_eq_false_iff_ne.mpr c16
                      have c16b1 : (t241.toList != t246.toList) = true := bne_iff_ne.mpr c16
                      simp only [Option.some.injEq, Prod.mk.injEq] at H
                      obtain ⟨rfl, rfl, rfl⟩ := H
                      go_wp2_with (first | ((with_reducible refine gate_callee (f := 48) rfl ?_); refine goesL_ (some 21) rfl rfl Tryd.func48 (by kernel_rfl) rfl #[.string (a0.extract (x7_1 : Int).toNat a0.size), .int .u8 10] rfl (by (try simp only [List.map_toArray, List.map_cons, List.map_nil]); first | done | rfl | (simp only [List.length_drop, List.length_take]; rfl)) ?_; (with_reducible refine (strings_IndexByte.calls (a0.extract (x7_1 : Int).toNat a0.size) 10 t240 _ A7.out).mono ?_); rintro e w' ⟨rfl, ⟨nd, rfl⟩⟩; refine ⟨_, rfl, ?_⟩) | ((with_reducible refine gate_callee (f := 49) rfl ?_); refine goesL_ (some 33) rfl rfl Tryd.func49 (by kernel_rfl) rfl #[.string (a0.extract (x7_1 : Int).toNat ((wrap64 (x7_1 + t240)) : Int).toNat), .string (⟨#[32]⟩ : ByteArray)] rfl (by (try simp only [List.map_toArray, List.map_cons, List.map_nil]); first | done | rfl | (simp only [List.length_drop, List.length_take]; rfl)) ?_; (with_reducible refine (strings_Cut.calls (a0.extract (x7_1 : Int).toNat ((wrap64 (x7_1 + t240)) : Int).toNat) (⟨#[32]⟩ : ByteArray) t241 t242 true _ ?side1 A12.out).mono ?_); (case side1 => exact Tabs.below HT.out (by repeat (first | (with_reducible first | exact HB.out | apply below_alloc | apply pw_below_drewN | apply below_drew1) | exact HB.out))); rintro e w' ⟨rfl, ⟨nd, rfl⟩⟩; refine ⟨_, rfl, ?_⟩) | ((with_reducible refine gate_callee (f := 36) rfl ?_); refine goesL_ (some 40) rfl rfl Tryd.func36 (by kernel_rfl) rfl #[.int .i64 x6_1, .string t242] rfl (by (try simp only [List.map_toArray, List.map_cons, List.map_nil]); first | done | rfl | (simp only [List.length_drop, List.length_take]; rfl)) ?_; (with_reducible refine (impl_CheckOf.calls k1 x6_1 t242 t244 t245 _ A13.out).mono ?_); rintro e w' ⟨rfl, ⟨nd, rfl⟩⟩; refine ⟨_, rfl, ?_⟩) | (go_at_call 38; (with_reducible refine (impl_Decimal.calls t244 t246 _ ?side1 A15.out).mono ?_); (case side1 => exact Tabs.below HT.out (by repeat (first | (with_reducible first | exact HB.out | apply below_alloc | apply pw_below_drewN | apply below_drew1) | exact HB.out))); rintro e w20 ⟨rfl, hb⟩; have n0_ := Aside0.mk (Kd.R_below (by (with_reducible repeat (first | apply Kd.R_alloc | apply Kd.R_drewN | apply Kd.R_drew)); exact HO_5.out) hb); have n1_ := Aside0.mk (below_step (by repeat (first | (with_reducible first | exact HB.out | apply below_alloc | apply pw_below_drewN | apply below_drew1) | exact HB.out)) hb); clear HO_5; clear HB; have HO_5 := n0_; have HB := n1_; clear n0_ n1_; (try clear hb); (try clear hb2); (try clear hk); (try clear hi)))
                      go_ret3
                      exact ⟨_, by first | rfl | (simp [errW_none, errW_some] <;> rfl) | (simp [*, errW_none, errW_some] <;> rfl), by (with_reducible repeat (first | apply Kd.R_alloc | apply Kd.R_drewN | apply Kd.R_drew)); exact HO_5.out, by repeat (first | (with_reducible first | exact HB.out | apply below_alloc | apply pw_below_drewN | apply below_drew1) | exact HB.out)⟩
                  · replace c14 := Bool.eq_false_iff.mpr c14
                    subst c14
                    have H1 : (some (x5_1, x7_1, true)) = some (r1, r2, r3) := by rw [if_neg (show ¬ (false = true) by decide)] at H; exact H
                    clear H
                    have H := H1
                    clear H1
                    simp only [Option.some.injEq, Prod.mk.injEq] at H
                    obtain ⟨rfl, rfl, rfl⟩ := H
                    go_wp2_with (first | ((with_reducible refine gate_callee (f := 48) rfl ?_); refine goesL_ (some 21) rfl rfl Tryd.func48 (by kernel_rfl) rfl #[.string (a0.extract (x7_1 : Int).toNat a0.size), .int .u8 10] rfl (by (try simp only [List.map_toArray, List.map_cons, List.map_nil]); first | done | rfl | (simp only [List.length_drop, List.length_take]; rfl)) ?_; (with_reducible refine (strings_IndexByte.calls (a0.extract (x7_1 : Int).toNat a0.size) 10 t240 _ A7.out).mono ?_); rintro e w' ⟨rfl, ⟨nd, rfl⟩⟩; refine ⟨_, rfl, ?_⟩) | ((with_reducible refine gate_callee (f := 49) rfl ?_); refine goesL_ (some 33) rfl rfl Tryd.func49 (by kernel_rfl) rfl #[.string (a0.extract (x7_1 : Int).toNat ((wrap64 (x7_1 + t240)) : Int).toNat), .string (⟨#[32]⟩ : ByteArray)] rfl (by (try simp only [List.map_toArray, List.map_cons, List.map_nil]); first | done | rfl | (simp only [List.length_drop, List.length_take]; rfl)) ?_; (with_reducible refine (strings_Cut.calls (a0.extract (x7_1 : Int).toNat ((wrap64 (x7_1 + t240)) : Int).toNat) (⟨#[32]⟩ : ByteArray) t241 t242 false _ ?side1 A12.out).mono ?_); (case side1 => exact Tabs.below HT.out (by repeat (first | (with_reducible first | exact HB.out | apply below_alloc | apply pw_below_drewN | apply below_drew1) | exact HB.out))); rintro e w' ⟨rfl, ⟨nd, rfl⟩⟩; refine ⟨_, rfl, ?_⟩) | ((with_reducible refine gate_callee (f := 36) rfl ?_); refine goesL_ (some 40) rfl rfl Tryd.func36 (by kernel_rfl) rfl #[.int .i64 x6_1, .string t242] rfl (by (try simp only [List.map_toArray, List.map_cons, List.map_nil]); first | done | rfl | (simp only [List.length_drop, List.length_take]; rfl)) ?_; (with_reducible refine (impl_CheckOf.calls k1 x6_1 t242 t244 t245 _ A13.out).mono ?_); rintro e w' ⟨rfl, ⟨nd, rfl⟩⟩; refine ⟨_, rfl, ?_⟩))
                    go_ret3
                    exact ⟨_, by first | rfl | (simp [errW_none, errW_some] <;> rfl) | (simp [*, errW_none, errW_some] <;> rfl), by (with_reducible repeat (first | apply Kd.R_alloc | apply Kd.R_drewN | apply Kd.R_drew)); exact HO_5.out, by repeat (first | (with_reducible first | exact HB.out | apply below_alloc | apply pw_below_drewN | apply below_drew1) | exact HB.out)⟩
                · rw [if_neg c11] at H
                  exact absurd H (by simp)
              · rw [if_neg c10] at H
                exact absurd H (by simp)
          · rw [if_neg c6] at H
            exact absurd H (by simp)
        · rw [if_neg c5] at H
          exact absurd H (by simp)
theorem impl_RecoverJournal.w1 (a q : Nat) (h : a + q + 1 ≤ 4000) : wrap64 ((a : Int) + (q : Int)) = ((a + q : Nat) : Int) := by
  rw [wrap64_id (x := (a : Int) + (q : Int)) (by omega) (by omega)]; omega
theorem impl_RecoverJournal.w2 (a q : Nat) (h : a + q + 1 ≤ 4000) : wrap64 ((a : Int) + (wrap64 ((q : Int) + 1))) = ((a + q + 1 : Nat) : Int) := by
  rw [wrap64_id (x := (q : Int) + 1) (by omega) (by omega), wrap64_id (x := (a : Int) + ((q : Int) + 1)) (by omega) (by omega)]; omega
theorem impl_RecoverJournal.cut_f (x y : ByteArray) (hz : x.size < 4294967281) : strings_Cut.f x y = some (⟨(Lib.cut (by_ x) (by_ y)).1.toArray⟩, ⟨(Lib.cut (by_ x) (by_ y)).2.1.toArray⟩, (Lib.cut (by_ x) (by_ y)).2.2) := if_pos hz
theorem impl_RecoverJournal.blank : by_ ⟨#[32]⟩ = [32] := rfl
theorem impl_RecoverJournal.check (s : ByteArray) (n : Int) (hs : s.size ≤ 9223372036854775806) (h0 : 0 ≤ n) (h1 : n ≤ 65002) : Ev (fun k => impl_CheckOf.f k n s) (chk n (by_ s), true) := by
  refine ⟨s.size + 1, fun k hk => ?_⟩
  unfold impl_CheckOf.f impl_within.f
  rw [if_pos (by omega)]
  simp only [Option.bind_some]
  rw [if_pos (by simpa using h1)]
  have := impl_CheckOf.l0_any s hs s.size 0 k n (by omega) (by omega) h0 h1
  simpa using this
theorem impl_RecoverJournal.step (s : ByteArray) (out : List ByteArray) (n : Int) (a q : Nat) (c1 c2 : ByteArray) (c3 : Bool) (ha : a ≤ s.size) (hs : s.size ≤ 4000) (h4 : a + q + 1 ≤ 4000) (hq : a + q ≤ s.size) (ho : out.length ≤ a)
    (hix : strings_IndexByte.f (s.extract (a : Int).toNat s.size) 10 = some (q : Int)) (hcut : strings_Cut.f (s.extract a (a + q)) (⟨#[32]⟩ : ByteArray) = some (c1, c2, c3)) (k : Nat) :
    impl_RecoverJournal.l0 (k + 1) s out n (a : Int) = (impl_CheckOf.f k n c2).bind fun bt244 => (if c3 = true then ((impl_Decimal.f bt244.1).bind fun t246 => (if c1.toList = t246.toList then (impl_RecoverJournal.l0 k s (out ++ [c2]) bt244.1 ((a + q + 1 : Nat) : Int)) else (some (out, (a : Int), true)))) else (some (out, (a : Int), true))) := by
  have ho' : out.length < 8796093022208 := by omega
  have w2 := impl_RecoverJournal.w2 a q h4
  have w1 := impl_RecoverJournal.w1 a q h4
  have e1 : (0 : Int) ≤ (a : Int) := by omega
  have e2 : (a : Int) ≤ (s.size : Int) := by omega
  have e3 : ¬ ((q : Int) < 0) := by omega
  have e4 : (a : Int) ≤ ((a + q : Nat) : Int) := by omega
  have e5 : ((a + q : Nat) : Int) ≤ (s.size : Int) := by omega
  rw [impl_RecoverJournal.l0]
  rw [if_pos e1, if_pos e2, hix]
  rw [Option.bind_some, if_neg e3, w1, if_pos e4, if_pos e5, Int.toNat_natCast, Int.toNat_natCast, hcut, w2]
  rw [Option.bind_some]
  simp only [if_pos ho']
theorem impl_RecoverJournal.cut_yes (l : List UInt8) (h : spc 32 l < l.length) : Lib.cut l [32] = (l.take (spc 32 l), l.drop (spc 32 l + 1), true) := by
  have hi : Lib.index l [32] = (spc 32 l : Int) := by rw [Lib.index_one, indexByte_spc, if_pos h]
  unfold Lib.cut
  rw [hi, if_pos (by omega), Int.toNat_natCast]
  rfl
theorem impl_RecoverJournal.cut_no (l : List UInt8) (h : ¬ spc 32 l < l.length) : Lib.cut l [32] = (l, [], false) := by
  have hi : Lib.index l [32] = -1 := by rw [Lib.index_one, indexByte_spc, if_neg h]
  unfold Lib.cut
  rw [hi, if_neg (by omega)]
theorem impl_RecoverJournal.line (s : ByteArray) (hs : s.size ≤ 4000) (a q : Nat) (l : List UInt8) (rest : List (List UInt8)) (out : List ByteArray) (n : Int) (hll : l.length = q) (hq : a + q + 1 ≤ s.size) (ho : out.length ≤ a) (h0 : 0 ≤ n) (h1 : n ≤ 65002)
    (hix : strings_IndexByte.f (s.extract (a : Int).toNat s.size) 10 = some (q : Int)) (hcut : strings_Cut.f (s.extract a (a + q)) (⟨#[32]⟩ : ByteArray) = some (⟨(Lib.cut l [32]).1.toArray⟩, ⟨(Lib.cut l [32]).2.1.toArray⟩, (Lib.cut l [32]).2.2))
    (ih : ∀ (out' : List ByteArray) (n' : Int), out'.length ≤ a + q + 1 → 0 ≤ n' → n' ≤ 65002 → Ev (fun k => impl_RecoverJournal.l0 k s out' n' ((a + q + 1 : Nat) : Int)) ((rl rest n' out' ((a + q + 1 : Nat) : Int)).1, (rl rest n' out' ((a + q + 1 : Nat) : Int)).2, true)) :
    Ev (fun k => impl_RecoverJournal.l0 k s out n (a : Int)) ((rl (l :: rest) n out (a : Int)).1, (rl (l :: rest) n out (a : Int)).2, true) := by
  by_cases hsp : spc 32 l < l.length
  · rw [impl_RecoverJournal.cut_yes l hsp] at hcut
    have hst := impl_RecoverJournal.step s out n a q _ _ _ (by omega) hs (by omega) (by omega) ho hix hcut
    clear hcut hix
    have hr := chk_range (l.drop (spc 32 l + 1)) n h0 h1
    have hsz : (⟨(l.drop (spc 32 l + 1)).toArray⟩ : ByteArray).size ≤ 9223372036854775806 := by rw [← by_length, by_mk, List.length_drop]; omega
    have hk := impl_RecoverJournal.check ⟨(l.drop (spc 32 l + 1)).toArray⟩ n hsz h0 h1
    rw [by_mk] at hk
    have ht := told_iff ⟨(l.take (spc 32 l)).toArray⟩ (chk n (l.drop (spc 32 l + 1)))
    rw [by_mk] at ht
    have hd : impl_Decimal.f (chk n (l.drop (spc 32 l + 1))) = some (itoaB (chk n (l.drop (spc 32 l + 1)))) := if_pos ⟨by omega, by omega⟩
    have ih' := ih (out ++ [⟨(l.drop (spc 32 l + 1)).toArray⟩]) (chk n (l.drop (spc 32 l + 1))) (by simp; omega) hr.1 hr.2
    have hat : (a : Int) + (l.length : Int) + 1 = ((a + q + 1 : Nat) : Int) := by omega
    have hrl : rl (l :: rest) n out (a : Int) = if l.take (spc 32 l) = Lib.itoa (chk n (l.drop (spc 32 l + 1))) then rl rest (chk n (l.drop (spc 32 l + 1))) (out ++ [⟨(l.drop (spc 32 l + 1)).toArray⟩]) ((a + q + 1 : Nat) : Int) else (out, (a : Int)) := by
      rw [← hat]; exact if_pos hsp
    rw [hrl]
    clear hrl hat ih hsz
    refine Ev.step hst (Ev.bind hk ?_)
    refine Ev.congr (fun k => if_pos rfl) (Ev.bind (g := fun _ => impl_Decimal.f (chk n (l.drop (spc 32 l + 1)))) ⟨0, fun _ _ => hd⟩ ?_)
    by_cases hc : l.take (spc 32 l) = Lib.itoa (chk n (l.drop (spc 32 l + 1)))
    · rw [if_pos hc]
      refine Ev.congr (fun k => if_pos (ht.mpr hc)) ?_
      exact ih'
    · rw [if_neg hc]
      exact Ev.congr (fun k => if_neg (fun h => hc (ht.mp h))) (Ev.now _)
  · rw [impl_RecoverJournal.cut_no l hsp] at hcut
    have hst := impl_RecoverJournal.step s out n a q _ _ _ (by omega) hs (by omega) (by omega) ho hix hcut
    have e : rl (l :: rest) n out (a : Int) = (out, (a : Int)) := if_neg hsp
    rw [e]
    refine Ev.step hst (Ev.bind (impl_RecoverJournal.check ⟨([] : List UInt8).toArray⟩ n (by show 0 ≤ 9223372036854775806; omega) h0 h1) ?_)
    exact Ev.congr (fun k => if_neg (by simp)) (Ev.now _)
theorem impl_RecoverJournal.l0_any (s : ByteArray) (hs : s.size ≤ 4000) : ∀ (N a : Nat) (out : List ByteArray) (n : Int), s.size - a < N → a ≤ s.size → out.length ≤ a → 0 ≤ n → n ≤ 65002 →
    Ev (fun k => impl_RecoverJournal.l0 k s out n (a : Int)) ((rl (lgo ((by_ s).drop a) []) n out (a : Int)).1, (rl (lgo ((by_ s).drop a) []) n out (a : Int)).2, true)
  | 0, a, out, n, hN, _, _, _, _ => by omega
  | N + 1, a, out, n, hN, ha, ho, h0, h1 => by
    have e0 : by_ (s.extract a s.size) = (by_ s).drop a := by
      rw [by_extract]; exact List.take_of_length_le (by rw [List.length_drop, by_length]; omega)
    have hbl := by_length s
    have hdl : ((by_ s).drop a).length = s.size - a := by rw [List.length_drop, hbl]
    have hix : strings_IndexByte.f (s.extract (a : Int).toNat s.size) 10 = some (if spc 10 ((by_ s).drop a) < ((by_ s).drop a).length then (spc 10 ((by_ s).drop a) : Int) else -1) := by
      unfold strings_IndexByte.f
      rw [Int.toNat_natCast]
      show some (Lib.indexByte (by_ (s.extract a s.size)) 10) = _
      rw [e0, indexByte_spc]
    rw [lgo_spc]
    by_cases hq : spc 10 ((by_ s).drop a) < ((by_ s).drop a).length
    · rw [if_pos hq, List.nil_append]
      rw [if_pos hq] at hix
      generalize spc 10 ((by_ s).drop a) = q at hq hix ⊢
      rw [List.drop_drop, show a + (q + 1) = a + q + 1 by omega]
      have hq' : a + q + 1 ≤ s.size := by omega
      have e1 : by_ (s.extract a (a + q)) = ((by_ s).drop a).take q := by rw [by_extract, show a + q - a = q by omega]
      have hll : (((by_ s).drop a).take q).length = q := by rw [List.length_take]; omega
      have hz : (s.extract a (a + q)).size < 4294967281 := by rw [← by_length, e1, hll]; omega
      have hcut := impl_RecoverJournal.cut_f (s.extract a (a + q)) ⟨#[32]⟩ hz
      rw [e1, impl_RecoverJournal.blank] at hcut
      exact impl_RecoverJournal.line s hs a q _ _ out n hll hq' ho h0 h1 hix hcut (fun out' n' g1 g2 g3 => impl_RecoverJournal.l0_any s hs N (a + q + 1) out' n' (by omega) (by omega) g1 g2 g3)
    · rw [if_neg hq]
      rw [if_neg hq] at hix
      refine Ev.step (f := fun _ => some _) (fun k => ?_) (Ev.now _)
      have e1 : (0 : Int) ≤ (a : Int) := by omega
      have e2 : (a : Int) ≤ (s.size : Int) := by omega
      rw [impl_RecoverJournal.l0, if_pos e1, if_pos e2, hix, Option.bind_some, if_pos (by omega)]
      rfl
theorem impl_RecoverJournal.any (s : ByteArray) : Ev (fun k => impl_RecoverJournal.f k s) (recov s) := by
  unfold impl_RecoverJournal.f recov
  by_cases h : 4000 < s.size
  · rw [if_pos h]
    exact Ev.congr (fun k => if_pos (by omega)) (Ev.now _)
  · rw [if_neg h]
    refine Ev.congr (fun k => if_neg (by omega)) ?_
    have := impl_RecoverJournal.l0_any s (by omega) (s.size + 1) 0 [] 0 (by omega) (by omega) (by simp) (by omega) (by omega)
    rw [List.drop_zero] at this
    exact this

end Go.Proofs.YtbbchbmoaahidaaDoor.G
