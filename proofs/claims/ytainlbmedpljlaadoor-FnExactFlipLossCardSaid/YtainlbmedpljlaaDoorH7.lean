-- written by this claim's own program out of the translation
import Derived.Test.YtainlbmedpljlaaDoorG0
import Derived.Test.YtainlbmedpljlaaDoorH6
import Derived.Test.YtainlbmedpljlaaDoorH3
import Derived.Test.YtainlbmedpljlaaDoorH5
namespace Go.Proofs.YtainlbmedpljlaaDoor.G
open Go.RowKit Go.Proofs.YtainlbmedpljlaaDoorW.PrintWords Go.Proofs.YtainlbmedpljlaaDoorW.PrintLast Go.Proofs.YtainlbmedpljlaaDoorW.PrintMore
attribute [local go_sem] max2_int min2_int max_two min_two max_three min_three max_four min_four   -- for this text's walks alone
set_option linter.unusedVariables false
set_option linter.unusedSimpArgs false
section
/-! ### impl_xorBits: function 38 -/
/-- The bits that are 1 where two texts differ. -/
def xorL : List UInt8 → List UInt8 → List UInt8
  | a :: l, b :: m => (if a = b then 48 else 49) :: xorL l m
  | _, _ => []
theorem xorL_len : ∀ (l m : List UInt8), l.length ≤ m.length → (xorL l m).length = l.length
  | [], _, _ => rfl
  | a :: l, [], h => by simp at h
  | a :: l, b :: m, h => by simp only [xorL, List.length_cons]; rw [xorL_len l m (by simpa using h)]
theorem xorL_snoc : ∀ (l m : List UInt8) (i : Nat) (h : i < l.length) (h' : i < m.length), xorL (l.take (i + 1)) (m.take (i + 1)) = xorL (l.take i) (m.take i) ++ [if l[i] = m[i] then 48 else 49]
  | [], _, _, h, _ => by simp at h
  | _ :: _, [], _, _, h => by simp at h
  | a :: l, b :: m, 0, _, _ => by simp [xorL]
  | a :: l, b :: m, i + 1, h, h' => by
    simp only [List.take_succ_cons, xorL, List.getElem_cons_succ, List.cons_append]
    rw [xorL_snoc l m i (by simpa using h) (by simpa using h')]
theorem xorL_take : ∀ (l m : List UInt8), xorL l (m.take l.length) = xorL l m
  | [], _ => rfl
  | a :: l, [] => by simp [xorL]
  | a :: l, b :: m => by simp only [List.length_cons, List.take_succ_cons, xorL]; rw [xorL_take l m]
def impl_xorBits.f (a0 : ByteArray) (a1 : ByteArray) : Option (ByteArray) := if a0.size ≤ a1.size ∧ a0.size ≤ 140737488351232 then some ⟨(xorL (by_ a0) (by_ a1)).toArray⟩ else none
set_option maxHeartbeats 1600000 in
set_option maxRecDepth 100000 in
theorem impl_xorBits.calls (a0 : ByteArray) (a1 : ByteArray) (r : ByteArray) (w : World) (h : impl_xorBits.f a0 a1 = some r) :
    Calls Tryd.prog 38 #[.string a0, .string a1] w fun e w' => e = .returned (.string r) ∧ Below w.heap.size w w' := by
  unfold impl_xorBits.f at h
  by_cases hs : a0.size ≤ a1.size ∧ a0.size ≤ 140737488351232
  · rw [if_pos hs] at h
    have HR := Aside0.mk (Option.some.inj h)
    have h1 := hs.1
    have h2 := hs.2
    clear h hs
    go_enter Tryd.func38, Tryd.ntmps38
    go_wp2
    go_loopw [10] (fun v10 wr => ∃ i : Nat, v10 = .int .i64 i ∧ i ≤ a0.size ∧ Aside0 (Lib.IsBuilder 63 5 w.heap.size w.heap.size (Lib.byteCells (xorL ((by_ a0).take i) ((by_ a1).take i))) wr) ∧ Aside0 (Below w.heap.size w wr)) (fun i _ => a0.size - (intOf i).toNat)
    case atStart => exact ⟨0, rfl, by omega, ⟨Lib.fresh_isBuilder _ _ w⟩, ⟨below_alloc (Below.refl _ _) _⟩⟩
    case round =>
      obtain ⟨i, rfl, hi, HD, HB⟩ := hrel
      by_cases hlt : i < a0.size
      · have hl0 : i < (by_ a0).length := by rw [by_length]; exact hlt
        have hl1 : i < (by_ a1).length := by rw [by_length]; omega
        have hsn := xorL_snoc (by_ a0) (by_ a1) i hl0 hl1
        have hxl := xorL_len ((by_ a0).take i) ((by_ a1).take i) (by simp; omega)
        have hlt1 : i < a1.size := by omega
        have hlw : (Lib.byteCells (xorL ((by_ a0).take i) ((by_ a1).take i))).length + 1 ≤ 140737488355328 := by
          rw [Lib.byteCells_length, hxl, List.length_take]; omega
        have HLW := Aside0.mk hlw
        clear hlw hxl
        by_cases hd : (by_ a0)[i] = (by_ a1)[i]
        · have hdb : (((a0[i]'hlt).toNat : Int) != ((a1[i]'hlt1).toNat : Int)) = false := by have e : a0[i]'hlt = a1[i]'hlt1 := hd; rw [e]; simp
          rw [if_pos hd] at hsn
          have HSN := Aside0.mk hsn
          clear hsn hd hl0 hl1
          go_wp2
          go_region_with ((first | (go_at_call 49; refine (impl_bitOf.calls false ⟨#[48]⟩ _ rfl).mono ?_; rintro e w1 ⟨rfl, ⟨nd, rfl⟩⟩) | (go_at_call 43; refine (writeString_any w.heap.size w.heap.size _ ⟨#[48]⟩ (wr.drewN (1 + nd)) HD.out HLW.out HB.out.size).mono ?_; rintro e w1 ⟨rfl, hd1, hb1⟩)))
          all_goals
            have HB1 := Aside0.mk (below_weaken (show Below w.heap.size w (wr.drewN (1 + nd)) from by repeat (first | exact HB.out | apply pw_below_drewN)) (Nat.le_refl _) hb1)
            have HD1 := Aside0.mk (show Lib.IsBuilder 63 5 w.heap.size w.heap.size (Lib.byteCells (xorL ((by_ a0).take (i + 1)) ((by_ a1).take (i + 1)))) w1 from .inr (by rw [HSN.out, Lib.byteCells_append]; exact hd1))
            clear hd1 hb1 HD HB
            go_wp2
            go_roundw
            case measure => simp [intOf]; omega
            case rel => exact ⟨i + 1, by go_num, by omega, HD1, HB1⟩
        · have hdb : (((a0[i]'hlt).toNat : Int) != ((a1[i]'hlt1).toNat : Int)) = true := by
            have e : ¬ a0[i]'hlt = a1[i]'hlt1 := hd
            simp only [bne_iff_ne, ne_eq]
            exact fun h => e (UInt8.toNat_inj.mp (by omega))
          rw [if_neg hd] at hsn
          have HSN := Aside0.mk hsn
          clear hsn hd hl0 hl1
          go_wp2
          go_region_with ((first | (go_at_call 49; refine (impl_bitOf.calls true ⟨#[49]⟩ _ rfl).mono ?_; rintro e w1 ⟨rfl, ⟨nd, rfl⟩⟩) | (go_at_call 43; refine (writeString_any w.heap.size w.heap.size _ ⟨#[49]⟩ (wr.drewN (1 + nd)) HD.out HLW.out HB.out.size).mono ?_; rintro e w1 ⟨rfl, hd1, hb1⟩)))
          all_goals
            have HB1 := Aside0.mk (below_weaken (show Below w.heap.size w (wr.drewN (1 + nd)) from by repeat (first | exact HB.out | apply pw_below_drewN)) (Nat.le_refl _) hb1)
            have HD1 := Aside0.mk (show Lib.IsBuilder 63 5 w.heap.size w.heap.size (Lib.byteCells (xorL ((by_ a0).take (i + 1)) ((by_ a1).take (i + 1)))) w1 from .inr (by rw [HSN.out, Lib.byteCells_append]; exact hd1))
            clear hd1 hb1 HD HB
            go_wp2
            go_roundw
            case measure => simp [intOf]; omega
            case rel => exact ⟨i + 1, by go_num, by omega, HD1, HB1⟩
      · obtain rfl : i = a0.size := by omega
        have HD1 := Aside0.mk (show Lib.IsBuilder 63 5 w.heap.size w.heap.size (Lib.byteCells (xorL (by_ a0) (by_ a1))) wr from by
          have := HD.out
          rw [List.take_of_length_le (by rw [by_length]; omega)] at this
          have e : xorL (by_ a0) ((by_ a1).take a0.size) = xorL (by_ a0) (by_ a1) := by
            have := xorL_take (by_ a0) (by_ a1)
            rwa [by_length] at this
          rwa [e] at this)
        clear HD hlt hi
        have hS := Tryd.Builder_String_any w.heap.size w.heap.size (xorL (by_ a0) (by_ a1)) wr HD1.out HB.out.size
        go_wp2_with fail
        refine hS.mono ?_
        rintro e w4 ⟨rfl, hb4⟩
        clear hS
        go_wp2
        go_ret
        exact ⟨by rw [HR.out]; rfl, below_weaken HB.out (Nat.le_refl _) hb4⟩
  · rw [if_neg hs] at h; cases h
end
section
/-! ### strings_Repeat: function 39 -/
def strings_Repeat.f (a0 : ByteArray) (a1 : Int) : Option (ByteArray) := if a1 = 1 then some a0 else none
set_option maxHeartbeats 1600000 in
set_option maxRecDepth 100000 in
theorem strings_Repeat.calls (a0 : ByteArray) (a1 : Int) (r : ByteArray) (w : World) (h : strings_Repeat.f a0 a1 = some r) :
    Calls Tryd.prog 39 #[.string a0, .int .i64 a1] w fun e w' => e = .returned (.string r) ∧ Drawn0 w w' := by
  unfold strings_Repeat.f at h
  by_cases hs : a1 = 1
  · rw [if_pos hs] at h
    obtain rfl := Option.some.inj h
    subst hs
    clear h
    go_enter Tryd.func39, Tryd.ntmps39
    go_wp2
    go_ret
    exact ⟨rfl, ⟨0, rfl⟩⟩
  · rw [if_neg hs] at h; cases h
end
section
/-! ### impl_opposite: function 24 -/
def impl_opposite.f (a0 : ByteArray) : Option (ByteArray) := (strings_Repeat.f (⟨#[49]⟩ : ByteArray) (a0.size : Int)).bind fun t183 => ((impl_xorBits.f a0 t183).bind fun t184 => (some t184))
set_option maxHeartbeats 8000000 in
set_option maxRecDepth 100000 in
theorem impl_opposite.calls (a0 : ByteArray) (r : ByteArray) (w : World) (h : impl_opposite.f a0 = some r) :
    Calls Tryd.prog 24 #[.string a0] w fun e w' => e = .returned (.string r) ∧ Below w.heap.size w w' := by
  have HB := Aside0.mk (Below.refl w.heap.size w)
  have H : ((strings_Repeat.f (⟨#[49]⟩ : ByteArray) (a0.size : Int)).bind fun t183 => ((impl_xorBits.f a0 t183).bind fun t184 => (some t184))) = some r := h
  clear h
  replace H := Option.bind_eq_some_iff.mp H
  obtain ⟨t183, A20, H⟩ := H
  replace H : ((impl_xorBits.f a0 t183).bind fun t184 => (some t184)) = some r := H
  have A2 := Aside0.mk A20
  clear A20
  replace H := Option.bind_eq_some_iff.mp H
  obtain ⟨t184, A30, H⟩ := H
  replace H : (some t184) = some r := H
  have A3 := Aside0.mk A30
  clear A30
  obtain rfl := Option.some.inj H
  go_enter Tryd.func24, Tryd.ntmps24
  go_wp2_with (first | ((with_reducible refine gate_callee (f := 39) rfl ?_); refine goesL_ (some 6) rfl rfl Tryd.func39 (by kernel_rfl) rfl #[.string (⟨#[49]⟩ : ByteArray), .int .i64 (a0.size : Int)] rfl (by (try simp only [List.map_toArray, List.map_cons, List.map_nil]); first | done | rfl | (simp only [List.length_drop, List.length_take]; rfl)) ?_; (with_reducible refine (strings_Repeat.calls (⟨#[49]⟩ : ByteArray) (a0.size : Int) t183 _ A2.out).mono ?_); rintro e w' ⟨rfl, ⟨nd, rfl⟩⟩; refine ⟨_, rfl, ?_⟩) | ((with_reducible refine gate_callee (f := 38) rfl ?_); refine goesL_ (some 7) rfl rfl Tryd.func38 (by kernel_rfl) rfl #[.string a0, .string t183] rfl (by (try simp only [List.map_toArray, List.map_cons, List.map_nil]); first | done | rfl | (simp only [List.length_drop, List.length_take]; rfl)) ?_; (with_reducible refine (impl_xorBits.calls a0 t183 t184 _ A3.out).mono ?_); rintro e w4 ⟨rfl, hb⟩; refine ⟨_, rfl, ?_⟩; have n0_ := Aside0.mk (below_step (by repeat (first | (with_reducible first | exact HB.out | apply below_alloc | apply pw_below_drewN | apply below_drew1) | exact HB.out)) hb); clear HB; have HB := n0_; clear n0_; (try clear hb); (try clear hb2); (try clear hk); (try clear hi)))
  go_ret
  exact ⟨by first | rfl | (simp [errW_none, errW_some] <;> rfl) | (simp [*, errW_none, errW_some] <;> rfl), by repeat (first | (with_reducible first | exact HB.out | apply below_alloc | apply pw_below_drewN | apply below_drew1) | exact HB.out)⟩
theorem impl_opposite.one (c : UInt8) : impl_opposite.f ⟨#[c]⟩ = some ⟨#[if c = 49 then 48 else 49]⟩ := by
  unfold impl_opposite.f strings_Repeat.f
  rw [if_pos (by rfl)]
  simp only [Option.bind_some]
  unfold impl_xorBits.f
  rw [if_pos ⟨by show 1 ≤ 1; omega, by show 1 ≤ _; omega⟩]
  rfl
end
section
/-! ### impl_FlipLoss: function 9 -/
mutual
def impl_FlipLoss.j0 : Nat → List ByteArray → List Int → Int → Bool → Option (Int × Int × Bool)
  | 0, _, _, _, _ => none
  | k + 1, x0, x1, x2, x36 => if x36 = true then (some (0, 0, false)) else (impl_FlipLoss.l0 k x0 x2 (⟨#[]⟩ : ByteArray) x1 (x1.length : Int) 0)
def impl_FlipLoss.l0 : Nat → List ByteArray → Int → ByteArray → List Int → Int → Int → Option (Int × Int × Bool)
  | 0, _, _, _, _, _, _ => none
  | k + 1, x0, x2, x9, x37, x38, x39 => if x39 < x38 then (if 0 ≤ x39 then (if x39 < (x37.length : Int) then (if 0 ≤ (rd x37 x39) then (if (rd x37 x39) < (x0.length : Int) then (if x9.size + (rdOf ByteArray.empty x0 (rd x37 x39)).size ≤ 9223372036854775807 then (impl_FlipLoss.l0 k x0 x2 (x9 ++ (rdOf ByteArray.empty x0 (rd x37 x39))) x37 x38 (wrap64 (x39 + 1))) else (none)) else (none)) else (none)) else (none)) else (none)) else (if (x9.size : Int) > 400 then (impl_FlipLoss.j2 k x0 x2 x9 true) else ((impl_within.f x2 0 (wrap64 ((x9.size : Int) - 1))).bind fun t189 => (impl_FlipLoss.j2 k x0 x2 x9 (!t189))))
def impl_FlipLoss.j2 : Nat → List ByteArray → Int → ByteArray → Bool → Option (Int × Int × Bool)
  | 0, _, _, _, _ => none
  | k + 1, x0, x2, x9, x60 => if x60 = true then (some (0, 0, false)) else ((impl_ends.f k x0 x9).bind fun t190 => (if 0 ≤ x2 then (if x2 ≤ (x9.size : Int) then (if x2 ≤ (wrap64 (x2 + 1)) then (if (wrap64 (x2 + 1)) ≤ (x9.size : Int) then ((impl_opposite.f (x9.extract (x2 : Int).toNat ((wrap64 (x2 + 1)) : Int).toNat)).bind fun t193 => (if (x9.extract 0 (x2 : Int).toNat).size + t193.size ≤ 9223372036854775807 then (if 0 ≤ (wrap64 (x2 + 1)) then (if ((x9.extract 0 (x2 : Int).toNat) ++ t193).size + (x9.extract ((wrap64 (x2 + 1)) : Int).toNat x9.size).size ≤ 9223372036854775807 then ((impl_ends.f k x0 (((x9.extract 0 (x2 : Int).toNat) ++ t193) ++ (x9.extract ((wrap64 (x2 + 1)) : Int).toNat x9.size))).bind fun t194 => (impl_FlipLoss.l1 k x9 t190 t194 0 (wrap64 (x2 + 1)))) else (none)) else (none)) else (none))) else (none)) else (none)) else (none)) else (none)))
def impl_FlipLoss.l1 : Nat → ByteArray → List Bool → List Bool → Int → Int → Option (Int × Int × Bool)
  | 0, _, _, _, _, _ => none
  | k + 1, x9, x12, x13, x14, x15 => if x15 ≤ (x9.size : Int) then (if 0 ≤ x15 then (if x15 < (x12.length : Int) then (if rdOf false x12 x15 = true then (if x15 < (x13.length : Int) then (if rdOf false x13 x15 = true then (some (wrap64 (x14 + 1), x15, true)) else (impl_FlipLoss.l1 k x9 x12 x13 (wrap64 (x14 + 1)) (wrap64 (x15 + 1)))) else (none)) else (impl_FlipLoss.l1 k x9 x12 x13 x14 (wrap64 (x15 + 1)))) else (none)) else (none)) else (some (0, 0, false))
end
def impl_FlipLoss.f (k : Nat) (l0 : List ByteArray) (l1 : List Int) (a2 : Int) : Option (Int × Int × Bool) := (impl_IsCompleteCode.f k l0).bind fun t185 => (if t185 = true then (if (l0.length : Int) < 2 then (impl_FlipLoss.j0 k l0 l1 a2 true) else (if (l1.length : Int) > 400 then (impl_FlipLoss.j0 k l0 l1 a2 true) else ((impl_areIn.f k l1 0 (wrap64 ((l0.length : Int) - 1))).bind fun t186 => (impl_FlipLoss.j0 k l0 l1 a2 (!t186))))) else (impl_FlipLoss.j0 k l0 l1 a2 true))
theorem impl_FlipLoss.mono_l : ∀ k, (∀ y0 y1 y2 y3, LeO (impl_FlipLoss.j0 k y0 y1 y2 y3) (impl_FlipLoss.j0 (k + 1) y0 y1 y2 y3)) ∧ (∀ y0 y1 y2 y3 y4 y5, LeO (impl_FlipLoss.l0 k y0 y1 y2 y3 y4 y5) (impl_FlipLoss.l0 (k + 1) y0 y1 y2 y3 y4 y5)) ∧ (∀ y0 y1 y2 y3, LeO (impl_FlipLoss.j2 k y0 y1 y2 y3) (impl_FlipLoss.j2 (k + 1) y0 y1 y2 y3)) ∧ (∀ y0 y1 y2 y3 y4, LeO (impl_FlipLoss.l1 k y0 y1 y2 y3 y4) (impl_FlipLoss.l1 (k + 1) y0 y1 y2 y3 y4))
  | 0 => ⟨fun _ _ _ _ r h => by simp [impl_FlipLoss.j0] at h, fun _ _ _ _ _ _ r h => by simp [impl_FlipLoss.l0] at h, fun _ _ _ _ r h => by simp [impl_FlipLoss.j2] at h, fun _ _ _ _ _ r h => by simp [impl_FlipLoss.l1] at h⟩
  | k + 1 => by
    obtain ⟨ih0, ih1, ih2, ih3⟩ := impl_FlipLoss.mono_l k
    refine ⟨?_, ?_, ?_, ?_⟩
    · intro y0 y1 y2 y3
      unfold impl_FlipLoss.j0
      repeat' first
      | (with_reducible exact ih0 _ _ _ _)
      | (with_reducible exact ih1 _ _ _ _ _ _)
      | (with_reducible exact ih2 _ _ _ _)
      | (with_reducible exact ih3 _ _ _ _ _)
      | (with_reducible exact impl_IsCompleteCode.mono _ _)
      | (with_reducible exact impl_areIn.mono _ _ _ _)
      | (with_reducible exact impl_ends.mono _ _ _)
      | (with_reducible exact LeO.refl _)
      | (with_reducible exact LeO.none _)
      | (with_reducible refine LeO.ite ?_ ?_)
      | (with_reducible refine LeO.bind ?_ (fun _ => ?_))
      | exact ih0 _ _ _ _
      | exact ih1 _ _ _ _ _ _
      | exact ih2 _ _ _ _
      | exact ih3 _ _ _ _ _
      | exact impl_IsCompleteCode.mono _ _
      | exact impl_areIn.mono _ _ _ _
      | exact impl_ends.mono _ _ _
      | exact LeO.none _
      | refine LeO.ite ?_ ?_
      | refine LeO.bind ?_ (fun _ => ?_)
    · intro y0 y1 y2 y3 y4 y5
      unfold impl_FlipLoss.l0
      repeat' first
      | (with_reducible exact ih0 _ _ _ _)
      | (with_reducible exact ih1 _ _ _ _ _ _)
      | (with_reducible exact ih2 _ _ _ _)
      | (with_reducible exact ih3 _ _ _ _ _)
      | (with_reducible exact impl_IsCompleteCode.mono _ _)
      | (with_reducible exact impl_areIn.mono _ _ _ _)
      | (with_reducible exact impl_ends.mono _ _ _)
      | (with_reducible exact LeO.refl _)
      | (with_reducible exact LeO.none _)
      | (with_reducible refine LeO.ite ?_ ?_)
      | (with_reducible refine LeO.bind ?_ (fun _ => ?_))
      | exact ih0 _ _ _ _
      | exact ih1 _ _ _ _ _ _
      | exact ih2 _ _ _ _
      | exact ih3 _ _ _ _ _
      | exact impl_IsCompleteCode.mono _ _
      | exact impl_areIn.mono _ _ _ _
      | exact impl_ends.mono _ _ _
      | exact LeO.none _
      | refine LeO.ite ?_ ?_
      | refine LeO.bind ?_ (fun _ => ?_)
    · intro y0 y1 y2 y3
      unfold impl_FlipLoss.j2
      repeat' first
      | (with_reducible exact ih0 _ _ _ _)
      | (with_reducible exact ih1 _ _ _ _ _ _)
      | (with_reducible exact ih2 _ _ _ _)
      | (with_reducible exact ih3 _ _ _ _ _)
      | (with_reducible exact impl_IsCompleteCode.mono _ _)
      | (with_reducible exact impl_areIn.mono _ _ _ _)
      | (with_reducible exact impl_ends.mono _ _ _)
      | (with_reducible exact LeO.refl _)
      | (with_reducible exact LeO.none _)
      | (with_reducible refine LeO.ite ?_ ?_)
      | (with_reducible refine LeO.bind ?_ (fun _ => ?_))
      | exact ih0 _ _ _ _
      | exact ih1 _ _ _ _ _ _
      | exact ih2 _ _ _ _
      | exact ih3 _ _ _ _ _
      | exact impl_IsCompleteCode.mono _ _
      | exact impl_areIn.mono _ _ _ _
      | exact impl_ends.mono _ _ _
      | exact LeO.none _
      | refine LeO.ite ?_ ?_
      | refine LeO.bind ?_ (fun _ => ?_)
    · intro y0 y1 y2 y3 y4
      unfold impl_FlipLoss.l1
      repeat' first
      | (with_reducible exact ih0 _ _ _ _)
      | (with_reducible exact ih1 _ _ _ _ _ _)
      | (with_reducible exact ih2 _ _ _ _)
      | (with_reducible exact ih3 _ _ _ _ _)
      | (with_reducible exact impl_IsCompleteCode.mono _ _)
      | (with_reducible exact impl_areIn.mono _ _ _ _)
      | (with_reducible exact impl_ends.mono _ _ _)
      | (with_reducible exact LeO.refl _)
      | (with_reducible exact LeO.none _)
      | (with_reducible refine LeO.ite ?_ ?_)
      | (with_reducible refine LeO.bind ?_ (fun _ => ?_))
      | exact ih0 _ _ _ _
      | exact ih1 _ _ _ _ _ _
      | exact ih2 _ _ _ _
      | exact ih3 _ _ _ _ _
      | exact impl_IsCompleteCode.mono _ _
      | exact impl_areIn.mono _ _ _ _
      | exact impl_ends.mono _ _ _
      | exact LeO.none _
      | refine LeO.ite ?_ ?_
      | refine LeO.bind ?_ (fun _ => ?_)
theorem impl_FlipLoss.mono : ∀ a0 a1 a2 k, LeO (impl_FlipLoss.f k a0 a1 a2) (impl_FlipLoss.f (k + 1) a0 a1 a2) := by
  intro a0 a1 a2 k
  obtain ⟨ih0, ih1, ih2, ih3⟩ := impl_FlipLoss.mono_l k
  unfold impl_FlipLoss.f
  repeat' first
      | (with_reducible exact ih0 _ _ _ _)
      | (with_reducible exact ih1 _ _ _ _ _ _)
      | (with_reducible exact ih2 _ _ _ _)
      | (with_reducible exact ih3 _ _ _ _ _)
      | (with_reducible exact impl_IsCompleteCode.mono _ _)
      | (with_reducible exact impl_areIn.mono _ _ _ _)
      | (with_reducible exact impl_ends.mono _ _ _)
      | (with_reducible exact LeO.refl _)
      | (with_reducible exact LeO.none _)
      | (with_reducible refine LeO.ite ?_ ?_)
      | (with_reducible refine LeO.bind ?_ (fun _ => ?_))
      | exact ih0 _ _ _ _
      | exact ih1 _ _ _ _ _ _
      | exact ih2 _ _ _ _
      | exact ih3 _ _ _ _ _
      | exact impl_IsCompleteCode.mono _ _
      | exact impl_areIn.mono _ _ _ _
      | exact impl_ends.mono _ _ _
      | exact LeO.none _
      | refine LeO.ite ?_ ?_
      | refine LeO.bind ?_ (fun _ => ?_)
def impl_FlipLoss.T12 : Bool × List (List Nat × List Nat) := (true, [([], []), ([], []), ([], []), ([1, 2], [1, 2]), ([], []), ([], []), ([], []), ([6], [6]), ([4, 5, 7], [4, 5, 7]), ([8], [8]), ([3, 9], [3, 9]), ([], []), ([], []), ([12], [12]), ([11, 13], [11, 13]), ([10, 14], [10, 14]), ([0, 15, 9], [0, 15]), ([16, 16, 0, 1, 2, 3, 4, 5, 6, 7, 8, 9, 10, 11, 12, 13, 14, 15, 16], [16])])
def impl_FlipLoss.B12 : List Nat := [0, 0, 0, 6, 0, 0, 0, 64, 240, 496, 1022, 0, 0, 4096, 14336, 32766, 65535, 131071]
theorem impl_FlipLoss.tab12 : rtab .any (opsOf Tryd.f9 12) = impl_FlipLoss.T12 := by kernel_rfl
theorem impl_FlipLoss.bits12 : waitsOk impl_FlipLoss.T12.2 impl_FlipLoss.B12 = true := by kernel_rfl
set_option maxHeartbeats 8000000 in
set_option maxRecDepth 100000 in
theorem impl_FlipLoss.calls (k : Nat) (A0 : Option Addr) (c0 : Nat) (l0 : List ByteArray) (A1 : Option Addr) (c1 : Nat) (l1 : List Int) (a2 : Int) (r1 : Int) (r2 : Int) (r3 : Bool) (w : World) (hr0 : Kd.C Kd.string w A0 l0.length l0) (hc0 : l0.length ≤ c0) (hr1 : Kd.C (Kd.int .i64) w A1 l1.length l1) (hc1 : l1.length ≤ c1) (h : impl_FlipLoss.f k l0 l1 a2 = some (r1, r2, r3)) :
    Calls Tryd.prog 9 #[.slice A0 l0.length c0, .slice A1 l1.length c1, .int .i64 a2] w fun e w' => e = .returned (.tuple #[.int .i64 r1, .int .i64 r2, .bool r3]) ∧ Below w.heap.size w w' := by
  have HR0 := Aside0.mk hr0
  have HC0 := Aside0.mk hc0
  clear hr0 hc0
  have HR1 := Aside0.mk hr1
  have HC1 := Aside0.mk hc1
  clear hr1 hc1
  have HB := Aside0.mk (Below.refl w.heap.size w)
  have H : ((impl_IsCompleteCode.f k l0).bind fun t185 => (if t185 = true then (if (l0.length : Int) < 2 then (impl_FlipLoss.j0 k l0 l1 a2 true) else (if (l1.length : Int) > 400 then (impl_FlipLoss.j0 k l0 l1 a2 true) else ((impl_areIn.f k l1 0 (wrap64 ((l0.length : Int) - 1))).bind fun t186 => (impl_FlipLoss.j0 k l0 l1 a2 (!t186))))) else (impl_FlipLoss.j0 k l0 l1 a2 true))) = some (r1, r2, r3) := h
  clear h
  have HC4 := Aside0.mk H
  clear H
  go_enter Tryd.func9, Tryd.ntmps9
  go_upto_region 1 with (fail)
  go_cut [36] (fun v36 wc => ∃ (kq : Nat) (x36_3 : Bool), v36 = .bool x36_3 ∧ Aside0 (impl_FlipLoss.j0 kq l0 l1 a2 x36_3 = some (r1, r2, r3)) ∧ Aside0 (kq ≤ k) ∧ Aside0 (Below w.heap.size w wc))
  case first =>
    have H := HC4.out
    clear HC4
    replace H := Option.bind_eq_some_iff.mp H
    obtain ⟨t185, A50, H⟩ := H
    replace H : (if t185 = true then (if (l0.length : Int) < 2 then (impl_FlipLoss.j0 k l0 l1 a2 true) else (if (l1.length : Int) > 400 then (impl_FlipLoss.j0 k l0 l1 a2 true) else ((impl_areIn.f k l1 0 (wrap64 ((l0.length : Int) - 1))).bind fun t186 => (impl_FlipLoss.j0 k l0 l1 a2 (!t186))))) else (impl_FlipLoss.j0 k l0 l1 a2 true)) = some (r1, r2, r3) := H
    have A5 := Aside0.mk A50
    clear A50
    by_cases c6 : t185 = true
    · subst c6
      have H1 : (if (l0.length : Int) < 2 then (impl_FlipLoss.j0 k l0 l1 a2 true) else (if (l1.length : Int) > 400 then (impl_FlipLoss.j0 k l0 l1 a2 true) else ((impl_areIn.f k l1 0 (wrap64 ((l0.length : Int) - 1))).bind fun t186 => (impl_FlipLoss.j0 k l0 l1 a2 (!t186))))) = some (r1, r2, r3) := by rw [if_pos rfl] at H; exact H
      clear H
      have H := H1
      clear H1
      by_cases c7 : (l0.length : Int) < 2
      · rw [if_pos c7] at H
        have c7b0 : decide ((l0.length : Int) < 2) = true := decide_eq_true c7
        have c7b1 : decide (l0.length < 2) = true := decide_eq_true (by omega)
        clear c7
        (first | rw [c7b0] | (simp only [i64_w, i32_w]; rw [c7b0]) | skip)
        have H' := Aside0.mk H
        clear H
        go_wp2_with (first | ((with_reducible refine gate_callee (f := 20) rfl ?_); refine goesL_ (some 17) rfl rfl Tryd.func20 (by kernel_rfl) rfl #[.slice A0 l0.length c0] rfl (by (try simp only [List.map_toArray, List.map_cons, List.map_nil]); first | done | rfl | (simp only [List.length_drop, List.length_take]; rfl)) ?_; (with_reducible refine (impl_IsCompleteCode.calls k _ _ l0 true _ ?side1 ?side2 A5.out).mono ?_); (case side1 => repeat (first | exact (Kd.C_below HR0.out HB.out) | (with_reducible refine Kd.C_alloc ?_ _) | (with_reducible refine Kd.C_drewN ?_ _) | (with_reducible refine Kd.C_drew ?_))); (case side2 => exact HC0.out); rintro e w8 ⟨rfl, hb⟩; refine ⟨_, rfl, ?_⟩; have n0_ := Aside0.mk (below_step (by repeat (first | (with_reducible first | exact HB.out | apply below_alloc | apply pw_below_drewN | apply below_drew1) | exact HB.out)) hb); clear HB; have HB := n0_; clear n0_; (try clear hb); (try clear hb2); (try clear hk); (try clear hi)))
        go_meet
        case rel => exact ⟨_, (true), (by first | rfl | (simp; done) | (simp [*]; done)), H', ⟨by first | omega | exact Nat.le_refl _⟩, ⟨by repeat (first | (with_reducible first | exact HB.out | apply below_alloc | apply pw_below_drewN | apply below_drew1) | exact HB.out)⟩⟩
      · rw [if_neg c7] at H
        have c7b0 : decide ((l0.length : Int) < 2) = false := decide_eq_false c7
        have c7b1 : decide (l0.length < 2) = false := decide_eq_false (by omega)
        clear c7
        (first | rw [c7b0] | (simp only [i64_w, i32_w]; rw [c7b0]) | skip)
        by_cases c9 : (l1.length : Int) > 400
        · rw [if_pos c9] at H
          have c9b0 : decide (400 < (l1.length : Int)) = true := decide_eq_true c9
          have c9b1 : decide (400 < l1.length) = true := decide_eq_true (by omega)
          clear c9
          have H' := Aside0.mk H
          clear H
          go_wp2_with (first | ((with_reducible refine gate_callee (f := 20) rfl ?_); refine goesL_ (some 17) rfl rfl Tryd.func20 (by kernel_rfl) rfl #[.slice A0 l0.length c0] rfl (by (try simp only [List.map_toArray, List.map_cons, List.map_nil]); first | done | rfl | (simp only [List.length_drop, List.length_take]; rfl)) ?_; (with_reducible refine (impl_IsCompleteCode.calls k _ _ l0 true _ ?side1 ?side2 A5.out).mono ?_); (case side1 => repeat (first | exact (Kd.C_below HR0.out HB.out) | (with_reducible refine Kd.C_alloc ?_ _) | (with_reducible refine Kd.C_drewN ?_ _) | (with_reducible refine Kd.C_drew ?_))); (case side2 => exact HC0.out); rintro e w10 ⟨rfl, hb⟩; refine ⟨_, rfl, ?_⟩; have n0_ := Aside0.mk (below_step (by repeat (first | (with_reducible first | exact HB.out | apply below_alloc | apply pw_below_drewN | apply below_drew1) | exact HB.out)) hb); clear HB; have HB := n0_; clear n0_; (try clear hb); (try clear hb2); (try clear hk); (try clear hi)))
          go_meet
          case rel => exact ⟨_, (true), (by first | rfl | (simp; done) | (simp [*]; done)), H', ⟨by first | omega | exact Nat.le_refl _⟩, ⟨by repeat (first | (with_reducible first | exact HB.out | apply below_alloc | apply pw_below_drewN | apply below_drew1) | exact HB.out)⟩⟩
        · rw [if_neg c9] at H
          have c9b0 : decide (400 < (l1.length : Int)) = false := decide_eq_false c9
          have c9b1 : decide (400 < l1.length) = false := decide_eq_false (by omega)
          clear c9
          replace H := Option.bind_eq_some_iff.mp H
          obtain ⟨t186, A110, H⟩ := H
          replace H : (impl_FlipLoss.j0 k l0 l1 a2 (!t186)) = some (r1, r2, r3) := H
          have A11 := Aside0.mk A110
          clear A110
          have H' := Aside0.mk H
          clear H
          go_wp2_with (first | ((with_reducible refine gate_callee (f := 20) rfl ?_); refine goesL_ (some 17) rfl rfl Tryd.func20 (by kernel_rfl) rfl #[.slice A0 l0.length c0] rfl (by (try simp only [List.map_toArray, List.map_cons, List.map_nil]); first | done | rfl | (simp only [List.length_drop, List.length_take]; rfl)) ?_; (with_reducible refine (impl_IsCompleteCode.calls k _ _ l0 true _ ?side1 ?side2 A5.out).mono ?_); (case side1 => repeat (first | exact (Kd.C_below HR0.out HB.out) | (with_reducible refine Kd.C_alloc ?_ _) | (with_reducible refine Kd.C_drewN ?_ _) | (with_reducible refine Kd.C_drew ?_))); (case side2 => exact HC0.out); rintro e w12 ⟨rfl, hb⟩; refine ⟨_, rfl, ?_⟩; have n0_ := Aside0.mk (below_step (by repeat (first | (with_reducible first | exact HB.out | apply below_alloc | apply pw_below_drewN | apply below_drew1) | exact HB.out)) hb); clear HB; have HB := n0_; clear n0_; (try clear hb); (try clear hb2); (try clear hk); (try clear hi)) | (go_at_call 21; (with_reducible refine (impl_areIn.calls k _ _ l1 0 (wrap64 ((l0.length : Int) - 1)) t186 _ ?side1 ?side2 A11.out).mono ?_); (case side1 => repeat (first | exact (Kd.C_below HR1.out HB.out) | (with_reducible refine Kd.C_alloc ?_ _) | (with_reducible refine Kd.C_drewN ?_ _) | (with_reducible refine Kd.C_drew ?_))); (case side2 => exact HC1.out); rintro e w' ⟨rfl, ⟨nd, rfl⟩⟩))
          go_meet
          case rel => exact ⟨_, (!t186), (by first | rfl | (simp; done) | (simp [*]; done)), H', ⟨by first | omega | exact Nat.le_refl _⟩, ⟨by repeat (first | (with_reducible first | exact HB.out | apply below_alloc | apply pw_below_drewN | apply below_drew1) | exact HB.out)⟩⟩
    · replace c6 := Bool.eq_false_iff.mpr c6
      subst c6
      have H1 : (impl_FlipLoss.j0 k l0 l1 a2 true) = some (r1, r2, r3) := by rw [if_neg (show ¬ (false = true) by decide)] at H; exact H
      clear H
      have H := H1
      clear H1
      have H' := Aside0.mk H
      clear H
      go_wp2_with (first | ((with_reducible refine gate_callee (f := 20) rfl ?_); refine goesL_ (some 17) rfl rfl Tryd.func20 (by kernel_rfl) rfl #[.slice A0 l0.length c0] rfl (by (try simp only [List.map_toArray, List.map_cons, List.map_nil]); first | done | rfl | (simp only [List.length_drop, List.length_take]; rfl)) ?_; (with_reducible refine (impl_IsCompleteCode.calls k _ _ l0 false _ ?side1 ?side2 A5.out).mono ?_); (case side1 => repeat (first | exact (Kd.C_below HR0.out HB.out) | (with_reducible refine Kd.C_alloc ?_ _) | (with_reducible refine Kd.C_drewN ?_ _) | (with_reducible refine Kd.C_drew ?_))); (case side2 => exact HC0.out); rintro e w13 ⟨rfl, hb⟩; refine ⟨_, rfl, ?_⟩; have n0_ := Aside0.mk (below_step (by repeat (first | (with_reducible first | exact HB.out | apply below_alloc | apply pw_below_drewN | apply below_drew1) | exact HB.out)) hb); clear HB; have HB := n0_; clear n0_; (try clear hb); (try clear hb2); (try clear hk); (try clear hi)))
      go_meet
      case rel => exact ⟨_, (true), (by first | rfl | (simp; done) | (simp [*]; done)), H', ⟨by first | omega | exact Nat.le_refl _⟩, ⟨by repeat (first | (with_reducible first | exact HB.out | apply below_alloc | apply pw_below_drewN | apply below_drew1) | exact HB.out)⟩⟩
  case rest =>
    clear HC4
    try clear c1
    try clear c2
    try clear p2
    try clear c6
    try clear p6
    try clear c7
    try clear c7b0
    try clear c7b1
    try clear c9
    try clear c9b0
    try clear c9b1
    obtain ⟨kq, x36_3, rfl, HA, HJ3, HB⟩ := hcut
    cases kq with
    | zero => exact absurd HA.out (by simp [impl_FlipLoss.j0])
    | succ kj3 =>
      have H := HA.out
      clear HA
      simp only [impl_FlipLoss.j0] at H
      by_cases c14 : x36_3 = true
      · subst c14
        have H1 : (some (0, 0, false)) = some (r1, r2, r3) := by rw [if_pos rfl] at H; exact H
        clear H
        have H := H1
        clear H1
        simp only [Option.some.injEq, Prod.mk.injEq] at H
        obtain ⟨rfl, rfl, rfl⟩ := H
        go_wp2
        go_ret3
        exact ⟨by first | rfl | (simp [errW_none, errW_some] <;> rfl) | (simp [*, errW_none, errW_some] <;> rfl), by repeat (first | (with_reducible first | exact HB.out | apply below_alloc | apply pw_below_drewN | apply below_drew1) | exact HB.out)⟩
      · replace c14 := Bool.eq_false_iff.mpr c14
        subst c14
        have H1 : (impl_FlipLoss.l0 kj3 l0 a2 (⟨#[]⟩ : ByteArray) l1 (l1.length : Int) 0) = some (r1, r2, r3) := by rw [if_neg (show ¬ (false = true) by decide)] at H; exact H
        clear H
        have H := H1
        clear H1
        have H' := Aside0.mk H
        clear H
        go_wp2
        go_loopg [9, 39] kj3 (fun kq v9 v39 w' => ∃ (x9_2 : ByteArray) (x39_2 : Int), v9 = .string x9_2 ∧ v39 = .int .i64 x39_2 ∧ Aside0 (impl_FlipLoss.l0 kq l0 a2 x9_2 l1 (l1.length : Int) x39_2 = some (r1, r2, r3)) ∧ Aside0 (kq ≤ kj3) ∧ Aside0 (Below w.heap.size w w'))
        case atStart => exact ⟨((⟨#[]⟩ : ByteArray)), (0), (by first | rfl | (simp; done) | (simp [*]; done)), (by first | rfl | (simp; done) | (simp [*]; done)), H', ⟨Nat.le_refl _⟩, ⟨by repeat (first | (with_reducible first | exact HB.out | apply below_alloc | apply pw_below_drewN | apply below_drew1) | exact HB.out)⟩⟩
        case round =>
          clear H'
          try clear c1
          try clear c2
          try clear p2
          try clear c6
          try clear p6
          try clear c7
          try clear c7b0
          try clear c7b1
          try clear c9
          try clear c9b0
          try clear c9b1
          try clear c14
          try clear p2
          try clear p6
          obtain ⟨x9_2, x39_2, rfl, rfl, HA, HK2, HB⟩ := hrel
          cases gk with
          | zero => exact absurd HA.out (by simp [impl_FlipLoss.l0])
          | succ k2 =>
            have H := HA.out
            clear HA
            simp only [impl_FlipLoss.l0] at H
            by_cases c15 : x39_2 < (l1.length : Int)
            · rw [if_pos c15] at H
              have c15b0 : decide (x39_2 < (l1.length : Int)) = true := decide_eq_true c15
              clear c15
              by_cases c16 : 0 ≤ x39_2
              · rw [if_pos c16] at H
                have c16b0 : decide (0 ≤ x39_2) = true := decide_eq_true c16
                clear c16
                by_cases c17 : x39_2 < (l1.length : Int)
                · rw [if_pos c17] at H
                  have c17b0 : decide (x39_2 < (l1.length : Int)) = true := decide_eq_true c17
                  clear c17
                  by_cases c18 : 0 ≤ (rd l1 x39_2)
                  · rw [if_pos c18] at H
                    have c18b0 : decide (0 ≤ (rd l1 x39_2)) = true := decide_eq_true c18
                    clear c18
                    by_cases c19 : (rd l1 x39_2) < (l0.length : Int)
                    · rw [if_pos c19] at H
                      have c19b0 : decide ((rd l1 x39_2) < (l0.length : Int)) = true := decide_eq_true c19
                      clear c19
                      by_cases c20 : x9_2.size + (rdOf ByteArray.empty l0 (rd l1 x39_2)).size ≤ 9223372036854775807
                      · rw [if_pos c20] at H
                        have c20b0 := eq_true c20
                        have c20b1 : decide (x9_2.size + (rdOf ByteArray.empty l0 (rd l1 x39_2)).size ≤ 9223372036854775807) = true := decide_eq_true c20
                        try have c20b2 : (9223372036854775807 < x9_2.size + (rdOf ByteArray.empty l0 (rd l1 x39_2)).size) = False := eq_false (Nat.not_lt.2 c20)
                        have H' := Aside0.mk H
                        clear H
                        have p187 : 0 ≤ (x39_2 : Int) := of_decide_eq_true (by first | (with_reducible assumption) | assumption)
                        have q187 : x39_2 < (l1.length : Int) := of_decide_eq_true (by first | (with_reducible assumption) | assumption)
                        obtain ⟨ad187, e187, hx187_0⟩ := Kd.at_int HR1.out x39_2 p187 q187
                        cases e187
                        replace hx187_0 := (HB.out.cell (World.block_lt_of_cell? w _ hx187_0)).trans hx187_0
                        replace p187 := eq_true p187
                        replace q187 := eq_true q187
                        have p188 : 0 ≤ ((rd l1 x39_2) : Int) := of_decide_eq_true (by first | (with_reducible assumption) | assumption)
                        have q188 : (rd l1 x39_2) < (l0.length : Int) := of_decide_eq_true (by first | (with_reducible assumption) | assumption)
                        obtain ⟨ad188, e188, hx188_0⟩ := Kd.at_string HR0.out (rd l1 x39_2) p188 q188
                        cases e188
                        replace hx188_0 := (HB.out.cell (World.block_lt_of_cell? w _ hx188_0)).trans hx188_0
                        replace p188 := eq_true p188
                        replace q188 := eq_true q188
                        go_wp2
                        go_roundg k2
                        case measure => have := HJ3.out; have := HK2.out; omega
                        case rel => exact ⟨(x9_2 ++ (rdOf ByteArray.empty l0 (rd l1 x39_2))), (wrap64 (x39_2 + 1)), (by first | rfl | (simp; done) | (simp [*]; done)), (by first | rfl | (simp; done) | (simp [*]; done)), H', ⟨by have := HJ3.out; have := HK2.out; omega⟩, ⟨by repeat (first | (with_reducible first | exact HB.out | apply below_alloc | apply pw_below_drewN | apply below_drew1) | exact HB.out)⟩⟩
                      · rw [if_neg c20] at H
                        exact absurd H (by simp)
                    · rw [if_neg c19] at H
                      exact absurd H (by simp)
                  · rw [if_neg c18] at H
                    exact absurd H (by simp)
                · rw [if_neg c17] at H
                  exact absurd H (by simp)
              · rw [if_neg c16] at H
                exact absurd H (by simp)
            · rw [if_neg c15] at H
              have c15b0 : decide (x39_2 < (l1.length : Int)) = false := decide_eq_false c15
              clear c15
              have HC21 := Aside0.mk H
              clear H
              go_upto_region 9 with (fail)
              go_cut [60] (fun v60 wc => ∃ (kq : Nat) (x60_20 : Bool), v60 = .bool x60_20 ∧ Aside0 (impl_FlipLoss.j2 kq l0 a2 x9_2 x60_20 = some (r1, r2, r3)) ∧ Aside0 (kq ≤ k2) ∧ Aside0 (Below w.heap.size w wc))
              case first =>
                have H := HC21.out
                clear HC21
                by_cases c22 : (x9_2.size : Int) > 400
                · rw [if_pos c22] at H
                  have c22b0 : decide (400 < (x9_2.size : Int)) = true := decide_eq_true c22
                  have c22b1 : decide (400 < x9_2.size) = true := decide_eq_true (by omega)
                  clear c22
                  (first | rw [c22b0] | (simp only [i64_w, i32_w]; rw [c22b0]) | skip)
                  have H' := Aside0.mk H
                  clear H
                  go_wp2
                  go_meet
                  case rel => exact ⟨_, (true), (by first | rfl | (simp; done) | (simp [*]; done)), H', ⟨by have := HJ3.out; have := HK2.out; first | omega | exact Nat.le_refl _⟩, ⟨by repeat (first | (with_reducible first | exact HB.out | apply below_alloc | apply pw_below_drewN | apply below_drew1) | exact HB.out)⟩⟩
                · rw [if_neg c22] at H
                  have c22b0 : decide (400 < (x9_2.size : Int)) = false := decide_eq_false c22
                  have c22b1 : decide (400 < x9_2.size) = false := decide_eq_false (by omega)
                  clear c22
                  (first | rw [c22b0] | (simp only [i64_w, i32_w]; rw [c22b0]) | skip)
                  replace H := Option.bind_eq_some_iff.mp H
                  obtain ⟨t189, A230, H⟩ := H
                  replace H : (impl_FlipLoss.j2 k2 l0 a2 x9_2 (!t189)) = some (r1, r2, r3) := H
                  have A23 := Aside0.mk A230
                  clear A230
                  have H' := Aside0.mk H
                  clear H
                  go_wp2_with (first | (go_at_call 22; (with_reducible refine (impl_within.calls a2 0 (wrap64 ((x9_2.size : Int) - 1)) t189 _ A23.out).mono ?_); rintro e w' ⟨rfl, ⟨nd, rfl⟩⟩))
                  go_meet
                  case rel => exact ⟨_, (!t189), (by first | rfl | (simp; done) | (simp [*]; done)), H', ⟨by have := HJ3.out; have := HK2.out; first | omega | exact Nat.le_refl _⟩, ⟨by repeat (first | (with_reducible first | exact HB.out | apply below_alloc | apply pw_below_drewN | apply below_drew1) | exact HB.out)⟩⟩
              case rest =>
                clear HC21
                try clear c1
                try clear p1
                try clear q1
                try clear hx1
                try clear c2
                try clear p2
                try clear c6
                try clear p6
                try clear c7
                try clear c7b0
                try clear c7b1
                try clear c9
                try clear c9b0
                try clear c9b1
                try clear c14
                try clear c15
                try clear c15b0
                try clear c16
                try clear c16b0
                try clear c17
                try clear c17b0
                try clear c18
                try clear c18b0
                try clear p18
                try clear q18
                try clear hx18
                try clear c19
                try clear c19b0
                try clear c20
                try clear c20b0
                try clear c20b1
                try clear c20b2
                try clear c22
                try clear c22b0
                try clear c22b1
                try clear hx187_0
                try clear hx188_0
                try clear p187
                try clear p188
                try clear p2
                try clear p6
                try clear q187
                try clear q188
                obtain ⟨kq, x60_20, rfl, HA, HJ20, HB⟩ := hcut
                cases kq with
                | zero => exact absurd HA.out (by simp [impl_FlipLoss.j2])
                | succ kj20 =>
                  have H := HA.out
                  clear HA
                  simp only [impl_FlipLoss.j2] at H
                  by_cases c24 : x60_20 = true
                  · subst c24
                    have H1 : (some (0, 0, false)) = some (r1, r2, r3) := by rw [if_pos rfl] at H; exact H
                    clear H
                    have H := H1
                    clear H1
                    simp only [Option.some.injEq, Prod.mk.injEq] at H
                    obtain ⟨rfl, rfl, rfl⟩ := H
                    go_wp2
                    go_ret3
                    exact ⟨by first | rfl | (simp [errW_none, errW_some] <;> rfl) | (simp [*, errW_none, errW_some] <;> rfl), by repeat (first | (with_reducible first | exact HB.out | apply below_alloc | apply pw_below_drewN | apply below_drew1) | exact HB.out)⟩
                  · replace c24 := Bool.eq_false_iff.mpr c24
                    subst c24
                    have H1 : ((impl_ends.f kj20 l0 x9_2).bind fun t190 => (if 0 ≤ a2 then (if a2 ≤ (x9_2.size : Int) then (if a2 ≤ (wrap64 (a2 + 1)) then (if (wrap64 (a2 + 1)) ≤ (x9_2.size : Int) then ((impl_opposite.f (x9_2.extract (a2 : Int).toNat ((wrap64 (a2 + 1)) : Int).toNat)).bind fun t193 => (if (x9_2.extract 0 (a2 : Int).toNat).size + t193.size ≤ 9223372036854775807 then (if 0 ≤ (wrap64 (a2 + 1)) then (if ((x9_2.extract 0 (a2 : Int).toNat) ++ t193).size + (x9_2.extract ((wrap64 (a2 + 1)) : Int).toNat x9_2.size).size ≤ 9223372036854775807 then ((impl_ends.f kj20 l0 (((x9_2.extract 0 (a2 : Int).toNat) ++ t193) ++ (x9_2.extract ((wrap64 (a2 + 1)) : Int).toNat x9_2.size))).bind fun t194 => (impl_FlipLoss.l1 kj20 x9_2 t190 t194 0 (wrap64 (a2 + 1)))) else (none)) else (none)) else (none))) else (none)) else (none)) else (none)) else (none))) = some (r1, r2, r3) := by rw [if_neg (show ¬ (false = true) by decide)] at H; exact H
                    clear H
                    have H := H1
                    clear H1
                    replace H := Option.bind_eq_some_iff.mp H
                    obtain ⟨t190, A250, H⟩ := H
                    replace H : (if 0 ≤ a2 then (if a2 ≤ (x9_2.size : Int) then (if a2 ≤ (wrap64 (a2 + 1)) then (if (wrap64 (a2 + 1)) ≤ (x9_2.size : Int) then ((impl_opposite.f (x9_2.extract (a2 : Int).toNat ((wrap64 (a2 + 1)) : Int).toNat)).bind fun t193 => (if (x9_2.extract 0 (a2 : Int).toNat).size + t193.size ≤ 9223372036854775807 then (if 0 ≤ (wrap64 (a2 + 1)) then (if ((x9_2.extract 0 (a2 : Int).toNat) ++ t193).size + (x9_2.extract ((wrap64 (a2 + 1)) : Int).toNat x9_2.size).size ≤ 9223372036854775807 then ((impl_ends.f kj20 l0 (((x9_2.extract 0 (a2 : Int).toNat) ++ t193) ++ (x9_2.extract ((wrap64 (a2 + 1)) : Int).toNat x9_2.size))).bind fun t194 => (impl_FlipLoss.l1 kj20 x9_2 t190 t194 0 (wrap64 (a2 + 1)))) else (none)) else (none)) else (none))) else (none)) else (none)) else (none)) else (none)) = some (r1, r2, r3) := H
                    have A25 := Aside0.mk A250
                    clear A250
                    by_cases c26 : 0 ≤ a2
                    · rw [if_pos c26] at H
                      have c26b0 := eq_true c26
                      have c26b1 : decide (0 ≤ a2) = true := decide_eq_true c26
                      clear c26
                      by_cases c27 : a2 ≤ (x9_2.size : Int)
                      · rw [if_pos c27] at H
                        have c27b0 := eq_true c27
                        have c27b1 : decide (a2 ≤ (x9_2.size : Int)) = true := decide_eq_true c27
                        clear c27
                        have c28b0 := eq_true (of_decide_eq_true (by first | (with_reducible assumption) | assumption) : 0 ≤ a2)
                        by_cases c29 : a2 ≤ (wrap64 (a2 + 1))
                        · rw [if_pos c29] at H
                          have c29b0 := eq_true c29
                          have c29b1 : decide (a2 ≤ (wrap64 (a2 + 1))) = true := decide_eq_true c29
                          by_cases c30 : (wrap64 (a2 + 1)) ≤ (x9_2.size : Int)
                          · rw [if_pos c30] at H
                            have c30b0 := eq_true c30
                            have c30b1 : decide ((wrap64 (a2 + 1)) ≤ (x9_2.size : Int)) = true := decide_eq_true c30
                            replace H := Option.bind_eq_some_iff.mp H
                            obtain ⟨t193, A310, H⟩ := H
                            replace H : (if (x9_2.extract 0 (a2 : Int).toNat).size + t193.size ≤ 9223372036854775807 then (if 0 ≤ (wrap64 (a2 + 1)) then (if ((x9_2.extract 0 (a2 : Int).toNat) ++ t193).size + (x9_2.extract ((wrap64 (a2 + 1)) : Int).toNat x9_2.size).size ≤ 9223372036854775807 then ((impl_ends.f kj20 l0 (((x9_2.extract 0 (a2 : Int).toNat) ++ t193) ++ (x9_2.extract ((wrap64 (a2 + 1)) : Int).toNat x9_2.size))).bind fun t194 => (impl_FlipLoss.l1 kj20 x9_2 t190 t194 0 (wrap64 (a2 + 1)))) else (none)) else (none)) else (none)) = some (r1, r2, r3) := H
                            have A31 := Aside0.mk A310
                            clear A310
                            by_cases c32 : (x9_2.extract 0 (a2 : Int).toNat).size + t193.size ≤ 9223372036854775807
                            · rw [if_pos c32] at H
                              have c32b0 := eq_true c32
                              have c32b1 : decide ((x9_2.extract 0 (a2 : Int).toNat).size + t193.size ≤ 9223372036854775807) = true := decide_eq_true c32
                              try (have c32b3 : (9223372036854775807 < (x9_2.extract 0 (a2 : Int).toNat).size + t193.size) = False := eq_false (Nat.not_lt.2 c32); simp only [ByteArray.size_append, ByteArray.size_extract, Nat.min_self, Nat.sub_zero, Nat.min_eq_left, Int.toNat_le, *] at c32b3)
                              try have c32b2 : (9223372036854775807 < (x9_2.extract 0 (a2 : Int).toNat).size + t193.size) = False := eq_false (Nat.not_lt.2 c32)
                              obtain ⟨ji33, hji33⟩ : ∃ j_ : Int, (wrap64 (a2 + 1)) = j_ := ⟨_, rfl⟩
                              replace H : (if 0 ≤ (ji33) then (if ((x9_2.extract 0 (a2 : Int).toNat) ++ t193).size + (x9_2.extract ((ji33) : Int).toNat x9_2.size).size ≤ 9223372036854775807 then ((impl_ends.f kj20 l0 (((x9_2.extract 0 (a2 : Int).toNat) ++ t193) ++ (x9_2.extract ((ji33) : Int).toNat x9_2.size))).bind fun t194 => (impl_FlipLoss.l1 kj20 x9_2 t190 t194 0 ji33)) else (none)) else (none)) = some (r1, r2, r3) := by first | (rw [hji33] at H; exact H) | (simp only [hji33] at H ⊢; exact H)
                              (try rw [hji33] at c29b0)
                              (try rw [hji33] at c29b1)
                              (try rw [hji33] at c29)
                              (try rw [hji33] at c30b0)
                              (try rw [hji33] at c30b1)
                              (try rw [hji33] at c30)
                              (try rw [hji33] at A25)
                              (try rw [hji33] at A31)
                              have hji33w : (IntKind.i64.wrap (a2 + 1)) = ji33 := (i64_w _).trans hji33
                              by_cases c34 : 0 ≤ (ji33)
                              · rw [if_pos c34] at H
                                have c34b0 := eq_true c34
                                have c34b1 : decide (0 ≤ (ji33)) = true := decide_eq_true c34
                                clear c34
                                have c35b0 := eq_true (of_decide_eq_true (by first | (with_reducible assumption) | assumption) : (ji33) ≤ (x9_2.size : Int))
                                by_cases c36 : ((x9_2.extract 0 (a2 : Int).toNat) ++ t193).size + (x9_2.extract ((ji33) : Int).toNat x9_2.size).size ≤ 9223372036854775807
                                · rw [if_pos c36] at H
                                  have c36b0 := eq_true c36
                                  have c36b1 : decide (((x9_2.extract 0 (a2 : Int).toNat) ++ t193).size + (x9_2.extract ((ji33) : Int).toNat x9_2.size).size ≤ 9223372036854775807) = true := decide_eq_true c36
                                  try (have c36b3 : (9223372036854775807 < ((x9_2.extract 0 (a2 : Int).toNat) ++ t193).size + (x9_2.extract ((ji33) : Int).toNat x9_2.size).size) = False := eq_false (Nat.not_lt.2 c36); simp only [ByteArray.size_append, ByteArray.size_extract, Nat.min_self, Nat.sub_zero, Nat.min_eq_left, Int.toNat_le, *] at c36b3)
                                  try have c36b2 : (9223372036854775807 < ((x9_2.extract 0 (a2 : Int).toNat) ++ t193).size + (x9_2.extract ((ji33) : Int).toNat x9_2.size).size) = False := eq_false (Nat.not_lt.2 c36)
                                  replace H := Option.bind_eq_some_iff.mp H
                                  obtain ⟨t194, A370, H⟩ := H
                                  replace H : (impl_FlipLoss.l1 kj20 x9_2 t190 t194 0 ji33) = some (r1, r2, r3) := H
                                  have A37 := Aside0.mk A370
                                  clear A370
                                  have H' := Aside0.mk H
                                  clear H
                                  try go_wp2_with (first | ((with_reducible refine gate_callee (f := 23) rfl ?_); refine goesL_ (some 63) rfl rfl Tryd.func23 (by kernel_rfl) rfl #[.slice A0 l0.length c0, .string x9_2] rfl (by (try simp only [List.map_toArray, List.map_cons, List.map_nil]); first | done | rfl | (simp only [List.length_drop, List.length_take]; rfl)) ?_; (with_reducible refine (impl_ends.calls kj20 _ _ l0 x9_2 t190 _ ?side1 ?side2 A25.out).mono ?_); (case side1 => repeat (first | exact (Kd.C_below HR0.out HB.out) | (with_reducible refine Kd.C_alloc ?_ _) | (with_reducible refine Kd.C_drewN ?_ _) | (with_reducible refine Kd.C_drew ?_))); (case side2 => exact HC0.out); rintro e w38 ⟨v191, rfl, ho0, hb⟩; refine ⟨_, rfl, ?_⟩; have n0_ := Aside0.mk (Kd.R_lower ho0 (below_size (by repeat (first | (with_reducible first | exact HB.out | apply below_alloc | apply pw_below_drewN | apply below_drew1) | exact HB.out)))); have n1_ := Aside0.mk (below_step (by repeat (first | (with_reducible first | exact HB.out | apply below_alloc | apply pw_below_drewN | apply below_drew1) | exact HB.out)) hb); clear HB; have HO192 := n0_; have HB := n1_; clear n0_ n1_; (try clear hb); (try clear hb2); (try clear hk); (try clear hi); (try clear ho0)))
                                  have n0_ := Aside0.mk (Kd.R_drew HO192.out)
                                  have n1_ := Aside0.mk (below_drew1 HB.out)
                                  clear HO192
                                  clear HB
                                  have HO192 := n0_
                                  have HB := n1_
                                  clear n0_ n1_
                                  refine start_ (n := 18) (S := fun w' => True) (ds := []) #[false, false, false, false, false, false, false, false, false, false, false, false, false, false, false, false, false, false] (by kernel_rfl) rfl rfl trivial (fun hHeld => ?_); refine with_tabW impl_FlipLoss.tab12 impl_FlipLoss.bits12 (fun HT_ HW_ => ?_)
                                  generalize w38.drew = w39 at HO192 HB hHeld ⊢
                                  refine pure_ (i := 0) (N := some 64) (v := ?_) (a' := ?_) #[true, false, false, false, false, false, false, false, false, false, false, false, false, false, false, false, false, false] rfl rfl (any_of HT_.out (by kernel_rfl)) (fun _ _ _ h => h) (Or.inl ⟨by rfl, ?_⟩) ?_ ?_
                                  rotate_left
                                  · intro w'
                                    go_simp
                                    with_reducible rfl
                                  rotate_left
                                  · simp only [Act.put, List.setIfInBounds_toArray, List.set_cons_zero, List.set_cons_succ, i64_w, i32_w]
                                    rfl
                                  refine pure_ (i := 1) (N := some 65) (v := ?_) (a' := ?_) #[true, true, false, false, false, false, false, false, false, false, false, false, false, false, false, false, false, false] rfl rfl (any_of HT_.out (by kernel_rfl)) (fun _ _ _ h => h) (Or.inl ⟨by rfl, ?_⟩) ?_ ?_
                                  rotate_left
                                  · intro w'
                                    go_simp
                                    with_reducible rfl
                                  rotate_left
                                  · simp only [Act.put, List.setIfInBounds_toArray, List.set_cons_zero, List.set_cons_succ, i64_w, i32_w]
                                    rfl
                                  refine pure_ (i := 2) (N := some 66) (v := ?_) (a' := ?_) #[true, true, true, false, false, false, false, false, false, false, false, false, false, false, false, false, false, false] rfl rfl (any_of HT_.out (by kernel_rfl)) (fun _ _ _ h => h) (Or.inl ⟨by rfl, ?_⟩) ?_ ?_
                                  rotate_left
                                  · intro w'
                                    go_simp
                                    with_reducible rfl
                                  rotate_left
                                  · simp only [Act.put, List.setIfInBounds_toArray, List.set_cons_zero, List.set_cons_succ, i64_w, i32_w]
                                    rfl
                                  refine pure_ (i := 3) (N := some 67) (v := ?_) (a' := ?_) #[true, true, true, true, false, false, false, false, false, false, false, false, false, false, false, false, false, false] rfl rfl (any_of HT_.out (by kernel_rfl)) (fun _ _ _ h => h) (Or.inl ⟨by rfl, ?_⟩) ?_ ?_
                                  rotate_left
                                  · intro w'
                                    go_simp
                                    with_reducible rfl
                                  rotate_left
                                  · simp only [Act.put, List.setIfInBounds_toArray, List.set_cons_zero, List.set_cons_succ, i64_w, i32_w]
                                    rfl
                                  refine pure_ (i := 4) (N := some 68) (v := ?_) (a' := ?_) #[true, true, true, true, true, false, false, false, false, false, false, false, false, false, false, false, false, false] rfl rfl (any_of HT_.out (by kernel_rfl)) (fun _ _ _ h => h) (Or.inl ⟨by rfl, ?_⟩) ?_ ?_
                                  rotate_left
                                  · intro w'
                                    go_simp
                                    with_reducible rfl
                                  rotate_left
                                  · simp only [Act.put, List.setIfInBounds_toArray, List.set_cons_zero, List.set_cons_succ, i64_w, i32_w]
                                    rfl
                                  refine pure_ (i := 5) (N := some 69) (v := ?_) (a' := ?_) #[true, true, true, true, true, true, false, false, false, false, false, false, false, false, false, false, false, false] rfl rfl (any_of HT_.out (by kernel_rfl)) (fun _ _ _ h => h) (Or.inl ⟨by rfl, ?_⟩) ?_ ?_
                                  rotate_left
                                  · intro w'
                                    go_simp
                                    with_reducible rfl
                                  rotate_left
                                  · simp only [Act.put, List.setIfInBounds_toArray, List.set_cons_zero, List.set_cons_succ, i64_w, i32_w]
                                    rfl
                                  refine pure_ (i := 6) (N := some 70) (v := ?_) (a' := ?_) #[true, true, true, true, true, true, true, false, false, false, false, false, false, false, false, false, false, false] rfl rfl (any_of HT_.out (by kernel_rfl)) (fun _ _ _ h => h) (Or.inl ⟨by rfl, ?_⟩) ?_ ?_
                                  rotate_left
                                  · intro w'
                                    go_simp
                                    with_reducible rfl
                                  rotate_left
                                  · simp only [Act.put, List.setIfInBounds_toArray, List.set_cons_zero, List.set_cons_succ, i64_w, i32_w]
                                    rfl
                                  refine pure_ (i := 7) (N := some 71) (v := ?_) (a' := ?_) #[true, true, true, true, true, true, true, true, false, false, false, false, false, false, false, false, false, false] rfl rfl (any_of HT_.out (by kernel_rfl)) (fun _ _ _ h => h) (Or.inl ⟨by rfl, ?_⟩) ?_ ?_
                                  rotate_left
                                  · intro w'
                                    go_simp
                                    with_reducible rfl
                                  rotate_left
                                  · simp only [Act.put, List.setIfInBounds_toArray, List.set_cons_zero, List.set_cons_succ, i64_w, i32_w]
                                    rfl
                                  refine pure_ (i := 8) (N := some 72) (v := ?_) (a' := ?_) #[true, true, true, true, true, true, true, true, true, false, false, false, false, false, false, false, false, false] rfl rfl (any_of HT_.out (by kernel_rfl)) (fun _ _ _ h => h) (Or.inl ⟨by rfl, ?_⟩) ?_ ?_
                                  rotate_left
                                  · intro w'
                                    go_simp
                                    with_reducible rfl
                                  rotate_left
                                  · simp only [Act.put, List.setIfInBounds_toArray, List.set_cons_zero, List.set_cons_succ, i64_w, i32_w]
                                    rfl
                                  refine pure_ (i := 11) (N := some 75) (v := ?_) (a' := ?_) #[true, true, true, true, true, true, true, true, true, false, false, true, false, false, false, false, false, false] rfl rfl (any_of HT_.out (by kernel_rfl)) (fun _ _ _ h => h) (Or.inl ⟨by rfl, ?_⟩) ?_ ?_
                                  rotate_left
                                  · intro w'
                                    go_simp
                                    with_reducible rfl
                                  rotate_left
                                  · simp only [Act.put, List.setIfInBounds_toArray, List.set_cons_zero, List.set_cons_succ, i64_w, i32_w]
                                    rfl
                                  refine pure_ (i := 12) (N := some 76) (v := ?_) (a' := ?_) #[true, true, true, true, true, true, true, true, true, false, false, true, true, false, false, false, false, false] rfl rfl (any_of HT_.out (by kernel_rfl)) (fun _ _ _ h => h) (Or.inl ⟨by rfl, ?_⟩) ?_ ?_
                                  rotate_left
                                  · intro w'
                                    go_simp
                                    with_reducible rfl
                                  rotate_left
                                  · simp only [Act.put, List.setIfInBounds_toArray, List.set_cons_zero, List.set_cons_succ, i64_w, i32_w]
                                    rfl
                                  refine pure_ (i := 13) (N := some 77) (v := ?_) (a' := ?_) #[true, true, true, true, true, true, true, true, true, false, false, true, true, true, false, false, false, false] rfl rfl (any_of HT_.out (by kernel_rfl)) (fun _ _ _ h => h) (Or.inl ⟨by rfl, ?_⟩) ?_ ?_
                                  rotate_left
                                  · intro w'
                                    go_simp
                                    with_reducible rfl
                                  rotate_left
                                  · simp only [Act.put, List.setIfInBounds_toArray, List.set_cons_zero, List.set_cons_succ, i64_w, i32_w]
                                    rfl
                                  refine pure_ (i := 14) (N := some 78) (v := ?_) (a' := ?_) #[true, true, true, true, true, true, true, true, true, false, false, true, true, true, true, false, false, false] rfl rfl (any_of HT_.out (by kernel_rfl)) (fun _ _ _ h => h) (Or.inl ⟨by rfl, ?_⟩) ?_ ?_
                                  rotate_left
                                  · intro w'
                                    go_simp
                                    with_reducible rfl
                                  rotate_left
                                  · simp only [Act.put, List.setIfInBounds_toArray, List.set_cons_zero, List.set_cons_succ, i64_w, i32_w]
                                    rfl
                                  refine one_ (i := 9) (N := some 73) #[true, true, true, true, true, true, true, true, true, true, false, true, true, true, true, false, false, false] rfl rfl (one_of HT_.out (by kernel_rfl)) (by decide) (fun K hK => ?_)
                                  refine goes_ Tryd.func24 (by kernel_rfl) rfl #[.string (x9_2.extract (a2 : Int).toNat ((ji33) : Int).toNat)] (by rfl) rfl rfl (by (try simp only [List.map_toArray, List.map_cons, List.map_nil]); first | done | (simp only [hji33]; rfl) | rfl | (simp only [List.length_drop, List.length_take]; rfl)) ?_
                                  with_reducible refine (impl_opposite.calls (x9_2.extract (a2 : Int).toNat ((ji33) : Int).toNat) t193 _ A31.out).mono ?_
                                  rintro e w40 ⟨rfl, hb⟩
                                  refine ⟨_, rfl, ?_⟩
                                  have n0_ := Aside0.mk (Kd.R_below (by (with_reducible repeat (first | apply Kd.R_alloc | apply Kd.R_drewN | apply Kd.R_drew)); exact HO192.out) hb)
                                  have n1_ := Aside0.mk (below_step (by repeat (first | (with_reducible first | exact HB.out | apply below_alloc | apply pw_below_drewN | apply below_drew1) | exact HB.out)) hb)
                                  clear HO192
                                  clear HB
                                  have HO192 := n0_
                                  have HB := n1_
                                  clear n0_ n1_
                                  (try clear hb)
                                  (try clear hb2)
                                  (try clear hk)
                                  (try clear hi)
                                  refine hK.out _ _ trivial (fun hHeld => ?_)
                                  clear hK K
                                  refine norm_ (a' := ?_) ?_ ?_
                                  rotate_left
                                  · show Act.put _ (some 73) _ = _
                                    simp only [Act.put, List.setIfInBounds_toArray, List.set_cons_zero, List.set_cons_succ, i64_w, i32_w]
                                    rfl
                                  refine pure_ (i := 10) (N := some 74) (v := ?_) (a' := ?_) #[true, true, true, true, true, true, true, true, true, true, true, true, true, true, true, false, false, false] rfl rfl (any_of HT_.out (by kernel_rfl)) (fun _ _ _ h => h) (Or.inl ⟨by rfl, ?_⟩) ?_ ?_
                                  rotate_left
                                  · intro w'
                                    go_simp
                                    with_reducible rfl
                                  rotate_left
                                  · simp only [Act.put, List.setIfInBounds_toArray, List.set_cons_zero, List.set_cons_succ, i64_w, i32_w]
                                    rfl
                                  refine pure_ (i := 15) (N := some 79) (v := ?_) (a' := ?_) #[true, true, true, true, true, true, true, true, true, true, true, true, true, true, true, true, false, false] rfl rfl (any_of HT_.out (by kernel_rfl)) (fun _ _ _ h => h) (Or.inl ⟨by rfl, ?_⟩) ?_ ?_
                                  rotate_left
                                  · intro w'
                                    go_simp
                                    with_reducible rfl
                                  rotate_left
                                  · simp only [Act.put, List.setIfInBounds_toArray, List.set_cons_zero, List.set_cons_succ, i64_w, i32_w]
                                    rfl
                                  refine one_ (i := 16) (N := some 80) #[true, true, true, true, true, true, true, true, true, true, true, true, true, true, true, true, true, false] rfl rfl (one_of HT_.out (by kernel_rfl)) (by decide) (fun K hK => ?_)
                                  refine goes_ Tryd.func23 (by kernel_rfl) rfl #[.slice A0 l0.length c0, .string (((x9_2.extract 0 (a2 : Int).toNat) ++ t193) ++ (x9_2.extract ((ji33) : Int).toNat x9_2.size))] (by rfl) rfl rfl (by (try simp only [List.map_toArray, List.map_cons, List.map_nil]); first | done | (simp only [hji33]; rfl) | rfl | (simp only [List.length_drop, List.length_take]; rfl)) ?_
                                  with_reducible refine (impl_ends.calls kj20 _ _ l0 (((x9_2.extract 0 (a2 : Int).toNat) ++ t193) ++ (x9_2.extract ((ji33) : Int).toNat x9_2.size)) t194 _ ?side1 ?side2 A37.out).mono ?_
                                  (case side1 => repeat (first | exact (Kd.C_below HR0.out HB.out) | (with_reducible refine Kd.C_alloc ?_ _) | (with_reducible refine Kd.C_drewN ?_ _) | (with_reducible refine Kd.C_drew ?_)))
                                  (case side2 => exact HC0.out)
                                  rintro e w41 ⟨v195, rfl, ho0, hb⟩
                                  refine ⟨_, rfl, ?_⟩
                                  have n0_ := Aside0.mk (Kd.R_elder' (by (with_reducible repeat (first | apply Kd.R_alloc | apply Kd.R_drewN | apply Kd.R_drew)); exact HO192.out) (Kd.R_base ho0) hb)
                                  have n1_ := Aside0.mk (Kd.R_lower (Kd.R_new' ho0 (Kd.R_lt (by (with_reducible repeat (first | apply Kd.R_alloc | apply Kd.R_drewN | apply Kd.R_drew)); exact HO192.out))) (below_size (by repeat (first | (with_reducible first | exact HB.out | apply below_alloc | apply pw_below_drewN | apply below_drew1) | exact HB.out))))
                                  have n2_ := Aside0.mk (below_step (by repeat (first | (with_reducible first | exact HB.out | apply below_alloc | apply pw_below_drewN | apply below_drew1) | exact HB.out)) hb)
                                  clear HO192
                                  clear HB
                                  have HO192 := n0_
                                  have HO196 := n1_
                                  have HB := n2_
                                  clear n0_ n1_ n2_
                                  (try clear hb)
                                  (try clear hb2)
                                  (try clear hk)
                                  (try clear hi)
                                  (try clear ho0)
                                  refine hK.out _ _ trivial (fun hHeld => ?_)
                                  clear hK K
                                  refine norm_ (a' := ?_) ?_ ?_
                                  rotate_left
                                  · show Act.put _ (some 80) _ = _
                                    simp only [Act.put, List.setIfInBounds_toArray, List.set_cons_zero, List.set_cons_succ, i64_w, i32_w]
                                    rfl
                                  refine pure_ (i := 17) (N := some 13) (v := ?_) (a' := ?_) #[true, true, true, true, true, true, true, true, true, true, true, true, true, true, true, true, true, true] rfl rfl (any_of HT_.out (by kernel_rfl)) (fun _ _ _ h => h) (Or.inl ⟨by rfl, ?_⟩) ?_ ?_
                                  rotate_left
                                  · intro w'
                                    go_simp
                                    with_reducible rfl
                                  rotate_left
                                  · simp only [Act.put, List.setIfInBounds_toArray, List.set_cons_zero, List.set_cons_succ, i64_w, i32_w]
                                    rfl
                                  refine done_ (done_of HT_.out (by kernel_rfl)) ?_
                                  try go_wp2
                                  go_loopg [14, 15] kj20 (fun kq v14 v15 w' => ∃ (x14_4 : Int) (x15_4 : Int), v14 = .int .i64 x14_4 ∧ v15 = .int .i64 x15_4 ∧ Aside0 (impl_FlipLoss.l1 kq x9_2 t190 t194 x14_4 x15_4 = some (r1, r2, r3)) ∧ Aside0 (kq ≤ kj20) ∧ Aside0 (Kd.R Kd.bool 4 w' w.heap.size (fun k_ => some k_ ≠ (v195 : Value).ownBlock) v191 t190) ∧ Aside0 (Kd.R Kd.bool 4 w' w.heap.size (fun k_ => some k_ ≠ (v191 : Value).ownBlock) v195 t194) ∧ Aside0 (Below w.heap.size w w'))
                                  case atStart => exact ⟨(0), (ji33), (by first | rfl | (simp; done) | (simp [*]; done)), (by first | rfl | (simp; done) | (simp only [← hji33] <;> (first | rfl | simp)) | (simp [*]; done)), H', ⟨Nat.le_refl _⟩, ⟨by (with_reducible repeat (first | apply Kd.R_alloc | apply Kd.R_drewN | apply Kd.R_drew)); exact Kd.R_mono HO192.out (fun _ hk => hk.2)⟩, ⟨by (with_reducible repeat (first | apply Kd.R_alloc | apply Kd.R_drewN | apply Kd.R_drew)); exact Kd.R_mono HO196.out (fun _ hk => hk.2)⟩, ⟨by repeat (first | (with_reducible first | exact HB.out | apply below_alloc | apply pw_below_drewN | apply below_drew1) | exact HB.out)⟩⟩
                                  case round =>
                                    clear H'
                                    try clear c1
                                    try clear p1
                                    try clear q1
                                    try clear hx1
                                    try clear c2
                                    try clear p2
                                    try clear c3
                                    try clear c6
                                    try clear p6
                                    try clear c7
                                    try clear c7b0
                                    try clear c7b1
                                    try clear c9
                                    try clear c9b0
                                    try clear c9b1
                                    try clear c14
                                    try clear c15
                                    try clear c15b0
                                    try clear c16
                                    try clear c16b0
                                    try clear c17
                                    try clear c17b0
                                    try clear c18
                                    try clear c18b0
                                    try clear p18
                                    try clear q18
                                    try clear hx18
                                    try clear c19
                                    try clear c19b0
                                    try clear c20
                                    try clear c20b0
                                    try clear c20b1
                                    try clear c20b2
                                    try clear c22
                                    try clear c22b0
                                    try clear c22b1
                                    try clear c23
                                    try clear c24
                                    try clear c26
                                    try clear c26b0
                                    try clear c26b1
                                    try clear c27
                                    try clear c27b0
                                    try clear c27b1
                                    try clear c28
                                    try clear c28b0
                                    try clear c29
                                    try clear c29b0
                                    try clear c29b1
                                    try clear c30
                                    try clear c30b0
                                    try clear c30b1
                                    try clear c32
                                    try clear c32b0
                                    try clear c32b1
                                    try clear c32b2
                                    try clear c34
                                    try clear c34b0
                                    try clear c34b1
                                    try clear c35
                                    try clear c35b0
                                    try clear c36
                                    try clear c36b0
                                    try clear c36b1
                                    try clear c36b2
                                    try clear hx187_0
                                    try clear hx188_0
                                    try clear p1
                                    try clear p18
                                    try clear p187
                                    try clear p188
                                    try clear p2
                                    try clear p6
                                    try clear q1
                                    try clear q18
                                    try clear q187
                                    try clear q188
                                    obtain ⟨x14_4, x15_4, rfl, rfl, HA, HK4, HO_12, HO_13, HB⟩ := hrel
                                    cases gk with
                                    | zero => exact absurd HA.out (by simp [impl_FlipLoss.l1])
                                    | succ k4 =>
                                      have H := HA.out
                                      clear HA
                                      simp only [impl_FlipLoss.l1] at H
                                      by_cases c42 : x15_4 ≤ (x9_2.size : Int)
                                      · rw [if_pos c42] at H
                                        have c42b0 : decide (x15_4 ≤ (x9_2.size : Int)) = true := decide_eq_true c42
                                        clear c42
                                        by_cases c43 : 0 ≤ x15_4
                                        · rw [if_pos c43] at H
                                          have c43b0 : decide (0 ≤ x15_4) = true := decide_eq_true c43
                                          clear c43
                                          by_cases c44 : x15_4 < (t190.length : Int)
                                          · rw [if_pos c44] at H
                                            have c44b0 : decide (x15_4 < (t190.length : Int)) = true := decide_eq_true c44
                                            clear c44
                                            obtain ⟨bq45, hbq45⟩ : ∃ b_ : Bool, b_ = (rdOf false t190 x15_4) := ⟨_, rfl⟩
                                            replace H : (if bq45 = true then (if x15_4 < (t194.length : Int) then (if rdOf false t194 x15_4 = true then (some (wrap64 (x14_4 + 1), x15_4, true)) else (impl_FlipLoss.l1 k4 x9_2 t190 t194 (wrap64 (x14_4 + 1)) (wrap64 (x15_4 + 1)))) else (none)) else (impl_FlipLoss.l1 k4 x9_2 t190 t194 x14_4 (wrap64 (x15_4 + 1)))) = some (r1, r2, r3) := by rw [← hbq45] at H; exact H
                                            have Nbq45 := Aside0.mk hbq45
                                            clear hbq45
                                            by_cases c46 : bq45 = true
                                            · subst c46
                                              have H1 : (if x15_4 < (t194.length : Int) then (if rdOf false t194 x15_4 = true then (some (wrap64 (x14_4 + 1), x15_4, true)) else (impl_FlipLoss.l1 k4 x9_2 t190 t194 (wrap64 (x14_4 + 1)) (wrap64 (x15_4 + 1)))) else (none)) = some (r1, r2, r3) := by rw [if_pos rfl] at H; exact H
                                              clear H
                                              have H := H1
                                              clear H1
                                              by_cases c47 : x15_4 < (t194.length : Int)
                                              · rw [if_pos c47] at H
                                                have c47b0 : decide (x15_4 < (t194.length : Int)) = true := decide_eq_true c47
                                                clear c47
                                                obtain ⟨bq48, hbq48⟩ : ∃ b_ : Bool, b_ = (rdOf false t194 x15_4) := ⟨_, rfl⟩
                                                replace H : (if bq48 = true then (some (wrap64 (x14_4 + 1), x15_4, true)) else (impl_FlipLoss.l1 k4 x9_2 t190 t194 (wrap64 (x14_4 + 1)) (wrap64 (x15_4 + 1)))) = some (r1, r2, r3) := by rw [← hbq48] at H; exact H
                                                have Nbq48 := Aside0.mk hbq48
                                                clear hbq48
                                                by_cases c49 : bq48 = true
                                                · subst c49
                                                  have H1 : (some (wrap64 (x14_4 + 1), x15_4, true)) = some (r1, r2, r3) := by rw [if_pos rfl] at H; exact H
                                                  clear H
                                                  have H := H1
                                                  clear H1
                                                  simp only [Option.some.injEq, Prod.mk.injEq] at H
                                                  obtain ⟨rfl, rfl, rfl⟩ := H
                                                  obtain ⟨Ao50, co50, eo50⟩ := Kd.R_slice HO_12.out
                                                  subst eo50
                                                  have p197 : 0 ≤ (x15_4 : Int) := of_decide_eq_true (by first | (with_reducible assumption) | assumption)
                                                  have q197 : x15_4 < (t190.length : Int) := of_decide_eq_true (by first | (with_reducible assumption) | assumption)
                                                  obtain ⟨ad197, e197, hx197_0⟩ := Kd.at_bool (Kd.R_reads' HO_12.out).2.2 x15_4 p197 q197
                                                  (try rw [← Nbq45.out] at hx197_0)
                                                  (try rw [← Nbq48.out] at hx197_0)
                                                  cases e197
                                                  replace p197 := eq_true p197
                                                  replace q197 := eq_true q197
                                                  obtain ⟨Ao51, co51, eo51⟩ := Kd.R_slice HO_13.out
                                                  subst eo51
                                                  have p198 : 0 ≤ (x15_4 : Int) := of_decide_eq_true (by first | (with_reducible assumption) | assumption)
                                                  have q198 : x15_4 < (t194.length : Int) := of_decide_eq_true (by first | (with_reducible assumption) | assumption)
                                                  obtain ⟨ad198, e198, hx198_0⟩ := Kd.at_bool (Kd.R_reads' HO_13.out).2.2 x15_4 p198 q198
                                                  (try rw [← Nbq45.out] at hx198_0)
                                                  (try rw [← Nbq48.out] at hx198_0)
                                                  cases e198
                                                  replace p198 := eq_true p198
                                                  replace q198 := eq_true q198
                                                  go_wp2
                                                  go_ret3
                                                  exact ⟨by first | rfl | (simp [errW_none, errW_some] <;> rfl) | (simp only [← hji33]; first | rfl | (simp [errW_none, errW_some] <;> rfl)) | (simp [*, errW_none, errW_some] <;> rfl), by repeat (first | (with_reducible first | exact HB.out | apply below_alloc | apply pw_below_drewN | apply below_drew1) | exact HB.out)⟩
                                                · replace c49 := Bool.eq_false_iff.mpr c49
                                                  subst c49
                                                  have H1 : (impl_FlipLoss.l1 k4 x9_2 t190 t194 (wrap64 (x14_4 + 1)) (wrap64 (x15_4 + 1))) = some (r1, r2, r3) := by rw [if_neg (show ¬ (false = true) by decide)] at H; exact H
                                                  clear H
                                                  have H := H1
                                                  clear H1
                                                  have H' := Aside0.mk H
                                                  clear H
                                                  obtain ⟨Ao52, co52, eo52⟩ := Kd.R_slice HO_12.out
                                                  subst eo52
                                                  have p197 : 0 ≤ (x15_4 : Int) := of_decide_eq_true (by first | (with_reducible assumption) | assumption)
                                                  have q197 : x15_4 < (t190.length : Int) := of_decide_eq_true (by first | (with_reducible assumption) | assumption)
                                                  obtain ⟨ad197, e197, hx197_0⟩ := Kd.at_bool (Kd.R_reads' HO_12.out).2.2 x15_4 p197 q197
                                                  (try rw [← Nbq45.out] at hx197_0)
                                                  (try rw [← Nbq48.out] at hx197_0)
                                                  cases e197
                                                  replace p197 := eq_true p197
                                                  replace q197 := eq_true q197
                                                  obtain ⟨Ao53, co53, eo53⟩ := Kd.R_slice HO_13.out
                                                  subst eo53
                                                  have p198 : 0 ≤ (x15_4 : Int) := of_decide_eq_true (by first | (with_reducible assumption) | assumption)
                                                  have q198 : x15_4 < (t194.length : Int) := of_decide_eq_true (by first | (with_reducible assumption) | assumption)
                                                  obtain ⟨ad198, e198, hx198_0⟩ := Kd.at_bool (Kd.R_reads' HO_13.out).2.2 x15_4 p198 q198
                                                  (try rw [← Nbq45.out] at hx198_0)
                                                  (try rw [← Nbq48.out] at hx198_0)
                                                  cases e198
                                                  replace p198 := eq_true p198
                                                  replace q198 := eq_true q198
                                                  go_wp2
                                                  go_roundg k4
                                                  case measure => have := HJ3.out; have := HK2.out; have := HJ20.out; have := HK4.out; omega
                                                  case rel => exact ⟨(wrap64 (x14_4 + 1)), (wrap64 (x15_4 + 1)), (by first | rfl | (simp; done) | (simp [*]; done)), (by first | rfl | (simp; done) | (simp [*]; done)), H', ⟨by have := HJ3.out; have := HK2.out; have := HJ20.out; have := HK4.out; omega⟩, ⟨by (with_reducible repeat (first | apply Kd.R_alloc | apply Kd.R_drewN | apply Kd.R_drew)); exact HO_12.out⟩, ⟨by (with_reducible repeat (first | apply Kd.R_alloc | apply Kd.R_drewN | apply Kd.R_drew)); exact HO_13.out⟩, ⟨by repeat (first | (with_reducible first | exact HB.out | apply below_alloc | apply pw_below_drewN | apply below_drew1) | exact HB.out)⟩⟩
                                              · rw [if_neg c47] at H
                                                exact absurd H (by simp)
                                            · replace c46 := Bool.eq_false_iff.mpr c46
                                              subst c46
                                              have H1 : (impl_FlipLoss.l1 k4 x9_2 t190 t194 x14_4 (wrap64 (x15_4 + 1))) = some (r1, r2, r3) := by rw [if_neg (show ¬ (false = true) by decide)] at H; exact H
                                              clear H
                                              have H := H1
                                              clear H1
                                              have H' := Aside0.mk H
                                              clear H
                                              obtain ⟨Ao54, co54, eo54⟩ := Kd.R_slice HO_12.out
                                              subst eo54
                                              have p197 : 0 ≤ (x15_4 : Int) := of_decide_eq_true (by first | (with_reducible assumption) | assumption)
                                              have q197 : x15_4 < (t190.length : Int) := of_decide_eq_true (by first | (with_reducible assumption) | assumption)
                                              obtain ⟨ad197, e197, hx197_0⟩ := Kd.at_bool (Kd.R_reads' HO_12.out).2.2 x15_4 p197 q197
                                              (try rw [← Nbq45.out] at hx197_0)
                                              cases e197
                                              replace p197 := eq_true p197
                                              replace q197 := eq_true q197
                                              go_wp2
                                              go_roundg k4
                                              case measure => have := HJ3.out; have := HK2.out; have := HJ20.out; have := HK4.out; omega
                                              case rel => exact ⟨(x14_4), (wrap64 (x15_4 + 1)), (by first | rfl | (simp; done) | (simp [*]; done)), (by first | rfl | (simp; done) | (simp [*]; done)), H', ⟨by have := HJ3.out; have := HK2.out; have := HJ20.out; have := HK4.out; omega⟩, ⟨by (with_reducible repeat (first | apply Kd.R_alloc | apply Kd.R_drewN | apply Kd.R_drew)); exact HO_12.out⟩, ⟨by (with_reducible repeat (first | apply Kd.R_alloc | apply Kd.R_drewN | apply Kd.R_drew)); exact HO_13.out⟩, ⟨by repeat (first | (with_reducible first | exact HB.out | apply below_alloc | apply pw_below_drewN | apply below_drew1) | exact HB.out)⟩⟩
                                          · rw [if_neg c44] at H
                                            exact absurd H (by simp)
                                        · rw [if_neg c43] at H
                                          exact absurd H (by simp)
                                      · rw [if_neg c42] at H
                                        have c42b0 : decide (x15_4 ≤ (x9_2.size : Int)) = false := decide_eq_false c42
                                        clear c42
                                        simp only [Option.some.injEq, Prod.mk.injEq] at H
                                        obtain ⟨rfl, rfl, rfl⟩ := H
                                        go_wp2
                                        go_ret3
                                        exact ⟨by first | rfl | (simp [errW_none, errW_some] <;> rfl) | (simp only [← hji33]; first | rfl | (simp [errW_none, errW_some] <;> rfl)) | (simp [*, errW_none, errW_some] <;> rfl), by repeat (first | (with_reducible first | exact HB.out | apply below_alloc | apply pw_below_drewN | apply below_drew1) | exact HB.out)⟩
                                · rw [if_neg c36] at H
                                  exact absurd H (by simp)
                              · rw [if_neg c34] at H
                                exact absurd H (by simp)
                            · rw [if_neg c32] at H
                              exact absurd H (by simp)
                          · rw [if_neg c30] at H
                            exact absurd H (by simp)
                        · rw [if_neg c29] at H
                          exact absurd H (by simp)
                      · rw [if_neg c27] at H
                        exact absurd H (by simp)
                    · rw [if_neg c26] at H
                      exact absurd H (by simp)
theorem impl_FlipLoss.l1_any (s : ByteArray) (E1 E2 : List Bool) (h1 : E1.length = s.size) (h2 : E2.length = s.size) (hs : s.size ≤ 400) : ∀ (d j : Nat) (n : Int), j + d = s.size → 0 ≤ n → n ≤ j →
    Ev (fun k => impl_FlipLoss.l1 k s (true :: E1) (true :: E2) n ((j + 1 : Nat) : Int)) (fin2 (j + 1) (E1.drop j) (E2.drop j) n)
  | 0, j, n, hj, _, _ => by
    rw [List.drop_eq_nil_of_le (show E1.length ≤ j by omega)]
    refine Ev.step (f := fun _ => some _) (fun k => ?_) (Ev.now _)
    simp only [impl_FlipLoss.l1]
    rw [if_neg (by omega)]
    simp [fin2]
  | d + 1, j, n, hj, h0, hn => by
    have a1 : j < E1.length := by omega
    have a2 : j < E2.length := by omega
    have l1 : (true :: E1).length = s.size + 1 := by rw [List.length_cons, h1]
    have l2 : (true :: E2).length = s.size + 1 := by rw [List.length_cons, h2]
    have r1 : rdOf false (true :: E1) ((j + 1 : Nat) : Int) = E1[j] := by rw [rdOf_at _ _ (j + 1) (by omega)]; rfl
    have r2 : rdOf false (true :: E2) ((j + 1 : Nat) : Int) = E2[j] := by rw [rdOf_at _ _ (j + 1) (by omega)]; rfl
    have ih1 := impl_FlipLoss.l1_any s E1 E2 h1 h2 hs d (j + 1) (n + 1) (by omega) (by omega) (by omega)
    have ih2 := impl_FlipLoss.l1_any s E1 E2 h1 h2 hs d (j + 1) n (by omega) (by omega) (by omega)
    rw [drop_at _ j a1, drop_at _ j a2]
    simp only [fin2]
    refine Ev.step (f := fun k => if E1[j] = true then (if E2[j] = true then (some (n + 1, ((j + 1 : Nat) : Int), true)) else (impl_FlipLoss.l1 k s (true :: E1) (true :: E2) (n + 1) ((j + 1 + 1 : Nat) : Int))) else (impl_FlipLoss.l1 k s (true :: E1) (true :: E2) n ((j + 1 + 1 : Nat) : Int))) (fun k => ?_) ?_
    · simp only [impl_FlipLoss.l1]
      rw [r1, r2, if_pos (by omega), if_pos (by omega), if_pos (by omega), if_pos (show ((j + 1 : Nat) : Int) < ((true :: E2).length : Int) by omega), wrap64_id (x := ((j + 1 : Nat) : Int) + 1) (by omega) (by omega), wrap64_id (x := n + 1) (by omega) (by omega)]
      rfl
    · cases E1[j]
      · rw [if_neg (by decide)]
        exact Ev.congr (fun k => if_neg (by decide)) ih2
      · rw [if_pos rfl]
        refine Ev.congr (fun k => if_pos rfl) ?_
        cases E2[j]
        · rw [if_neg (by decide)]
          exact Ev.congr (fun k => if_neg (by decide)) ih1
        · rw [if_pos rfl]
          exact Ev.congr (fun k => if_pos rfl) (Ev.now _)
theorem impl_FlipLoss.j2_any (l : List ByteArray) (hl : l.length ≤ 140737488351232) (s : ByteArray) (p : Nat) (hs : s.size ≤ 400) (hp : p < s.size) :
    Ev (fun k => impl_FlipLoss.j2 k l (p : Int) s false) (fin2 (p + 1) ((ego l ⟨#[]⟩ (by_ s)).drop p) ((ego l ⟨#[]⟩ (by_ (flipped s p))).drop p) 0) := by
  have hpl : p < (by_ s).length := by rw [by_length]; exact hp
  have hfs := flipped_size s p hp
  have h1 := impl_ends.any l s hl (by omega)
  have h2 := impl_ends.any l (flipped s p) hl (by omega)
  have h3 := impl_opposite.one (by_ s)[p]
  have h4 := impl_FlipLoss.l1_any s (ego l ⟨#[]⟩ (by_ s)) (ego l ⟨#[]⟩ (by_ (flipped s p))) (by rw [ego_len, by_length]) (by rw [ego_len, by_length, hfs]) hs (s.size - p) p 0 (by omega) (by omega) (by omega)
  have e1 : (s.extract 0 p).size = p := by rw [ByteArray.size_extract]; omega
  have e2 : (s.extract (p + 1) s.size).size = s.size - (p + 1) := by rw [ByteArray.size_extract]; omega
  have q1 : (0 : Int) ≤ (p : Int) := by omega
  have q2 : (p : Int) ≤ (s.size : Int) := by omega
  have q3 : (p : Int) ≤ ((p + 1 : Nat) : Int) := by omega
  have q4 : ((p + 1 : Nat) : Int) ≤ (s.size : Int) := by omega
  have q5 : (0 : Int) ≤ ((p + 1 : Nat) : Int) := by omega
  have q6 : p + 1 ≤ 9223372036854775807 := by omega
  have q7 : p + 1 + (s.size - (p + 1)) ≤ 9223372036854775807 := by omega
  have w1 : wrap64 ((p : Int) + 1) = ((p + 1 : Nat) : Int) := (wrap64_id (x := (p : Int) + 1) (by omega) (by omega)).trans (by omega)
  have e3 : (⟨#[if (by_ s)[p] = 49 then 48 else 49]⟩ : ByteArray).size = 1 := rfl
  have hsp := flip_split s p hpl
  generalize ego l ⟨#[]⟩ (by_ s) = E1 at h1 h4 ⊢
  generalize ego l ⟨#[]⟩ (by_ (flipped s p)) = E2 at h2 h4 ⊢
  refine Ev.step (f := fun k => (impl_ends.f k l s).bind fun t190 => ((impl_opposite.f (⟨#[(by_ s)[p]]⟩ : ByteArray)).bind fun t193 => (if p + t193.size ≤ 9223372036854775807 then (if p + t193.size + (s.size - (p + 1)) ≤ 9223372036854775807 then ((impl_ends.f k l (s.extract 0 p ++ t193 ++ s.extract (p + 1) s.size)).bind fun t194 => (impl_FlipLoss.l1 k s t190 t194 0 ((p + 1 : Nat) : Int))) else (none)) else (none)))) (fun k => ?_) ?_
  · simp only [impl_FlipLoss.j2]
    rw [if_neg (by decide)]
    simp only [w1, Int.toNat_natCast, ext1 s p hpl, if_pos q1, if_pos q2, if_pos q3, if_pos q4, if_pos q5, ByteArray.size_append, e1, e2]
  · rw [h3]
    refine Ev.bind h1 (Ev.bind (Ev.now _) (Ev.congr (fun k => (if_pos (by rw [e3]; exact q6)).trans (if_pos (by rw [e3]; exact q7))) ?_))
    rw [hsp]
    exact Ev.bind h2 h4
theorem impl_FlipLoss.tail_any (l : List ByteArray) (hl : l.length ≤ 140737488351232) (s : ByteArray) (a : Int) (hs : s.size ≤ 4294967296) :
    Ev (fun k => (if (s.size : Int) > 400 then (impl_FlipLoss.j2 k l a s true) else ((impl_within.f a 0 (wrap64 ((s.size : Int) - 1))).bind fun t189 => (impl_FlipLoss.j2 k l a s (!t189))))) (lossOf l s a) := by
  have hno : Ev (fun k => impl_FlipLoss.j2 k l a s true) (0, 0, false) := by
    refine Ev.step (f := fun _ => some _) (fun k => ?_) (Ev.now _)
    simp only [impl_FlipLoss.j2]
    rw [if_pos trivial]
  unfold lossOf
  by_cases h4 : 400 < s.size
  · rw [if_neg (fun h => by omega)]
    exact Ev.congr (fun k => if_pos (by omega)) hno
  · have e : impl_within.f a 0 (wrap64 ((s.size : Int) - 1)) = some (decide (0 ≤ a ∧ a < s.size)) := by
      unfold impl_within.f
      rw [wrap64_id (x := (s.size : Int) - 1) (by omega) (by omega)]
      by_cases h0 : 0 ≤ a
      · rw [if_pos h0]
        congr 1
        by_cases h1 : a ≤ (s.size : Int) - 1
        · rw [decide_eq_true h1, decide_eq_true ⟨h0, by omega⟩]
        · rw [decide_eq_false h1, decide_eq_false (fun h => h1 (by omega))]
      · rw [if_neg h0, decide_eq_false (fun h => h0 h.1)]
    refine Ev.congr (fun k => (if_neg (by omega)).trans (by rw [e])) ?_
    by_cases h : 0 ≤ a ∧ a < s.size
    · obtain ⟨p, rfl⟩ : ∃ p : Nat, a = p := ⟨a.toNat, by omega⟩
      rw [decide_eq_true h, if_pos ⟨by omega, h⟩, Int.toNat_natCast]
      exact impl_FlipLoss.j2_any l hl s p (by omega) (by omega)
    · rw [decide_eq_false h, if_neg (fun h' => h h'.2)]
      exact hno
theorem impl_FlipLoss.l0_any (l : List ByteArray) (hc : isCode l = true) (xs : List Int) (a : Int) (hx : xs.length ≤ 400) (ho : okSyms l xs = true) : ∀ (d i : Nat) (s : ByteArray), i + d = xs.length → s.size ≤ 12 * i →
    Ev (fun k => impl_FlipLoss.l0 k l a s xs (xs.length : Int) (i : Int)) (lossOf l (cat l (xs.drop i) s) a)
  | 0, i, s, hi, hs => by
    have hlen := code_len hc
    rw [List.drop_eq_nil_of_le (by omega)]
    refine Ev.step (f := fun k => (if (s.size : Int) > 400 then (impl_FlipLoss.j2 k l a s true) else ((impl_within.f a 0 (wrap64 ((s.size : Int) - 1))).bind fun t189 => (impl_FlipLoss.j2 k l a s (!t189))))) (fun k => ?_) (impl_FlipLoss.tail_any l (by omega) s a (by omega))
    simp only [impl_FlipLoss.l0]
    rw [if_neg (by omega)]
  | d + 1, i, s, hi, hs => by
    have hlen := code_len hc
    have hlt : i < xs.length := by omega
    have hv := List.all_eq_true.1 (show xs.all (fun x => decide (0 ≤ x) && decide (x ≤ (l.length : Int) - 1)) = true from ho) _ (List.getElem_mem hlt)
    simp only [Bool.and_eq_true, decide_eq_true_eq] at hv
    obtain ⟨n, hn⟩ : ∃ n : Nat, xs[i] = n := ⟨xs[i].toNat, by omega⟩
    have hnl : n < l.length := by omega
    have hw := code_word hc (List.getElem_mem hnl)
    have ih := impl_FlipLoss.l0_any l hc xs a hx ho d (i + 1) (s ++ l[n]) (by omega) (by rw [ByteArray.size_append]; omega)
    refine Ev.step (f := fun k => impl_FlipLoss.l0 k l a (s ++ l[n]) xs (xs.length : Int) ((i + 1 : Nat) : Int)) (fun k => ?_) ?_
    · simp only [impl_FlipLoss.l0]
      rw [if_pos (by omega), if_pos (by omega), if_pos (by omega), rd_at _ _ hlt, if_pos (by omega), if_pos (by omega), hn, rdOf_at _ _ _ hnl, if_pos (by omega), wrap64_id (x := (i : Int) + 1) (by omega) (by omega)]
      rfl
    · rw [drop_at _ i hlt]
      simp only [cat]
      rw [hn, rdOf_at _ _ _ hnl]
      exact ih
theorem impl_FlipLoss.any (l : List ByteArray) (xs : List Int) (a : Int) (hl : l.length ≤ 140737488351232) (hz : ∀ s ∈ l, s.size ≤ 9223372036854775806) (hx : xs.length ≤ 140737488351232) : Ev (fun k => impl_FlipLoss.f k l xs a) (flipLoss l xs a) := by
  have hno : Ev (fun k => impl_FlipLoss.j0 k l xs a true) (0, 0, false) := by
    refine Ev.step (f := fun _ => some _) (fun k => ?_) (Ev.now _)
    simp only [impl_FlipLoss.j0]
    rw [if_pos trivial]
  unfold impl_FlipLoss.f flipLoss
  refine Ev.bind (impl_IsCompleteCode.any l hl hz) ?_
  cases h3 : isComplete l
  · rw [if_neg (fun h => by cases h.1)]
    exact Ev.congr (fun k => if_neg (by decide)) hno
  · have hc : isCode l = true := by
      unfold isComplete at h3
      simp only [Bool.and_eq_true] at h3
      exact h3.1
    refine Ev.congr (fun k => if_pos rfl) ?_
    by_cases h2 : l.length < 2
    · rw [if_neg (fun h => by omega)]
      exact Ev.congr (fun k => if_pos (by omega)) hno
    · refine Ev.congr (fun k => if_neg (by omega)) ?_
      by_cases h4 : 400 < xs.length
      · rw [if_neg (fun h => by omega)]
        exact Ev.congr (fun k => if_pos (by omega)) hno
      · refine Ev.congr (fun k => if_neg (by omega)) ?_
        have h6 := impl_areIn.any xs 0 (wrap64 ((l.length : Int) - 1)) hx
        rw [wrap64_id (x := (l.length : Int) - 1) (by omega) (by omega)] at h6
        rw [wrap64_id (x := (l.length : Int) - 1) (by omega) (by omega)]
        refine Ev.bind h6 ?_
        show Ev (fun k => impl_FlipLoss.j0 k l xs a (!(okSyms l xs))) _
        cases ho : okSyms l xs
        · rw [if_neg (fun h => by cases h.2.2.2)]
          exact hno
        · rw [if_pos ⟨rfl, by omega, by omega, rfl⟩]
          have h5 := impl_FlipLoss.l0_any l hc xs a (by omega) ho xs.length 0 ⟨#[]⟩ (by omega) (by show 0 ≤ _; omega)
          rw [List.drop_zero] at h5
          refine Ev.step (f := fun k => impl_FlipLoss.l0 k l a ⟨#[]⟩ xs (xs.length : Int) ((0 : Nat) : Int)) (fun k => ?_) h5
          simp only [impl_FlipLoss.j0]
          rw [if_neg (by decide)]
          rfl
end
section
/-! ### laws_eqStringS: function 10 -/
def laws_eqStringS.l0 : Nat → List ByteArray → List ByteArray → Int → Option (Bool)
  | 0, _, _, _ => none
  | k + 1, x0, x1, x5 => if x5 < (x0.length : Int) then (if 0 ≤ x5 then (if x5 < (x1.length : Int) then (if (rdOf ByteArray.empty x0 x5).toList = (rdOf ByteArray.empty x1 x5).toList then (laws_eqStringS.l0 k x0 x1 (wrap64 (x5 + 1))) else (some false)) else (none)) else (none)) else (some true)
def laws_eqStringS.f (k : Nat) (l0 : List ByteArray) (l1 : List ByteArray) : Option (Bool) := if (l0.length : Int) = (l1.length : Int) then (laws_eqStringS.l0 k l0 l1 0) else (some false)
theorem laws_eqStringS.mono_l : ∀ k, (∀ y0 y1 y2, LeO (laws_eqStringS.l0 k y0 y1 y2) (laws_eqStringS.l0 (k + 1) y0 y1 y2))
  | 0 => fun _ _ _ r h => by simp [laws_eqStringS.l0] at h
  | k + 1 => by
    have ih0 := laws_eqStringS.mono_l k
    · intro y0 y1 y2
      unfold laws_eqStringS.l0
      repeat' first
      | (with_reducible exact ih0 _ _ _)
      | (with_reducible exact LeO.refl _)
      | (with_reducible exact LeO.none _)
      | (with_reducible refine LeO.ite ?_ ?_)
      | (with_reducible refine LeO.bind ?_ (fun _ => ?_))
      | exact ih0 _ _ _
      | exact LeO.none _
      | refine LeO.ite ?_ ?_
      | refine LeO.bind ?_ (fun _ => ?_)
theorem laws_eqStringS.mono : ∀ a0 a1 k, LeO (laws_eqStringS.f k a0 a1) (laws_eqStringS.f (k + 1) a0 a1) := by
  intro a0 a1 k
  have ih0 := laws_eqStringS.mono_l k
  unfold laws_eqStringS.f
  repeat' first
      | (with_reducible exact ih0 _ _ _)
      | (with_reducible exact LeO.refl _)
      | (with_reducible exact LeO.none _)
      | (with_reducible refine LeO.ite ?_ ?_)
      | (with_reducible refine LeO.bind ?_ (fun _ => ?_))
      | exact ih0 _ _ _
      | exact LeO.none _
      | refine LeO.ite ?_ ?_
      | refine LeO.bind ?_ (fun _ => ?_)
set_option maxHeartbeats 8000000 in
set_option maxRecDepth 100000 in
theorem laws_eqStringS.calls (k : Nat) (A0 : Option Addr) (c0 : Nat) (l0 : List ByteArray) (A1 : Option Addr) (c1 : Nat) (l1 : List ByteArray) (r : Bool) (w : World) (hr0 : Kd.C Kd.string w A0 l0.length l0) (hc0 : l0.length ≤ c0) (hr1 : Kd.C Kd.string w A1 l1.length l1) (hc1 : l1.length ≤ c1) (h : laws_eqStringS.f k l0 l1 = some r) :
    Calls Tryd.prog 10 #[.slice A0 l0.length c0, .slice A1 l1.length c1] w fun e w' => e = .returned (.bool r) ∧ Drawn0 w w' := by
  have HR0 := Aside0.mk hr0
  have HC0 := Aside0.mk hc0
  clear hr0 hc0
  have HR1 := Aside0.mk hr1
  have HC1 := Aside0.mk hc1
  clear hr1 hc1
  have H : (if (l0.length : Int) = (l1.length : Int) then (laws_eqStringS.l0 k l0 l1 0) else (some false)) = some r := h
  clear h
  by_cases c3 : (l0.length : Int) = (l1.length : Int)
  · rw [if_pos c3] at H
    have c3b0 : ((l0.length : Int) == (l1.length : Int)) = true := beq_iff_eq.mpr c3
    have c3b1 : ((l0.length : Int) != (l1.length : Int)) = false := bne_eq_false_iff_eq.mpr c3
    have c3b2 : (l0.length == l1.length) = true := by first | simpa using c3 | (simp at c3 ⊢; omega)
    clear c3
    have H' := Aside0.mk H
    clear H
    go_enter Tryd.func10, Tryd.ntmps10
    go_wp2
    repeat (go_quiet (fail); try go_wp2)
    go_loopg [5] k (fun kq v5 w' => ∃ (x5_1 : Int), v5 = .int .i64 x5_1 ∧ Aside0 (laws_eqStringS.l0 kq l0 l1 x5_1 = some r) ∧ Aside0 (kq ≤ k) ∧ Drawn0 w w')
    case atStart => exact ⟨(0), (by first | rfl | (simp; done) | (simp [*]; done)), H', ⟨Nat.le_refl _⟩, by repeat (first | exact Drawn0.refl _ | apply Drawn0.step)⟩
    case round =>
      clear H'
      try clear c1
      try clear p2
      try clear c3
      try clear c3b0
      try clear c3b1
      try clear c3b2
      obtain ⟨x5_1, rfl, HA, HK1, ⟨m1, rfl⟩⟩ := hrel
      cases gk with
      | zero => exact absurd HA.out (by simp [laws_eqStringS.l0])
      | succ k1 =>
        have H := HA.out
        clear HA
        simp only [laws_eqStringS.l0] at H
        by_cases c4 : x5_1 < (l0.length : Int)
        · rw [if_pos c4] at H
          have c4b0 : decide (x5_1 < (l0.length : Int)) = true := decide_eq_true c4
          clear c4
          by_cases c5 : 0 ≤ x5_1
          · rw [if_pos c5] at H
            have c5b0 : decide (0 ≤ x5_1) = true := decide_eq_true c5
            clear c5
            by_cases c6 : x5_1 < (l1.length : Int)
            · rw [if_pos c6] at H
              have c6b0 : decide (x5_1 < (l1.length : Int)) = true := decide_eq_true c6
              clear c6
              by_cases c7 : (rdOf ByteArray.empty l0 x5_1).toList = (rdOf ByteArray.empty l1 x5_1).toList
              · rw [if_pos c7] at H
                have c7b0 : ((rdOf ByteArray.empty l0 x5_1).toList == (rdOf ByteArray.empty l1 x5_1).toList) = true := beq_iff_eq.mpr c7
                have c7b1 : ((rdOf ByteArray.empty l0 x5_1).toList != (rdOf ByteArray.empty l1 x5_1).toList) = false := bne_eq_false_iff_eq.mpr c7
                clear c7
                have H' := Aside0.mk H
                clear H
                have p199 : 0 ≤ (x5_1 : Int) := of_decide_eq_true (by first | (with_reducible assumption) | assumption)
                have q199 : x5_1 < (l0.length : Int) := of_decide_eq_true (by first | (with_reducible assumption) | assumption)
                obtain ⟨ad199, e199, hx199_0⟩ := Kd.at_string HR0.out x5_1 p199 q199
                cases e199
                replace p199 := eq_true p199
                replace q199 := eq_true q199
                have p200 : 0 ≤ (x5_1 : Int) := of_decide_eq_true (by first | (with_reducible assumption) | assumption)
                have q200 : x5_1 < (l1.length : Int) := of_decide_eq_true (by first | (with_reducible assumption) | assumption)
                obtain ⟨ad200, e200, hx200_0⟩ := Kd.at_string HR1.out x5_1 p200 q200
                cases e200
                replace p200 := eq_true p200
                replace q200 := eq_true q200
                go_wp2
                repeat (go_quiet (fail); try go_wp2)
                go_roundg k1
                case measure => have := HK1.out; omega
                case rel => exact ⟨(wrap64 (x5_1 + 1)), (by first | rfl | (simp; done) | (simp [*]; done)), H', ⟨by have := HK1.out; omega⟩, by repeat (first | exact Drawn0.refl _ | apply Drawn0.step)⟩
              · rw [if_neg c7] at H
                have c7b0 : ((rdOf ByteArray.empty l0 x5_1).toList == (rdOf ByteArray.empty l1 x5_1).toList) = false := beq_eq_false_iff_ne.mpr c7
                have c7b1 : ((rdOf ByteArray.empty l0 x5_1).toList != (rdOf ByteArray.empty l1 x5_1).toList) = true := bne_iff_ne.mpr c7
                obtain rfl := Option.some.inj H
                have p199 : 0 ≤ (x5_1 : Int) := of_decide_eq_true (by first | (with_reducible assumption) | assumption)
                have q199 : x5_1 < (l0.length : Int) := of_decide_eq_true (by first | (with_reducible assumption) | assumption)
                obtain ⟨ad199, e199, hx199_0⟩ := Kd.at_string HR0.out x5_1 p199 q199
                cases e199
                replace p199 := eq_true p199
                replace q199 := eq_true q199
                have p200 : 0 ≤ (x5_1 : Int) := of_decide_eq_true (by first | (with_reducible assumption) | assumption)
                have q200 : x5_1 < (l1.length : Int) := of_decide_eq_true (by first | (with_reducible assumption) | assumption)
                obtain ⟨ad200, e200, hx200_0⟩ := Kd.at_string HR1.out x5_1 p200 q200
                cases e200
                replace p200 := eq_true p200
                replace q200 := eq_true q200
                go_wp2
                repeat (go_quiet (fail); try go_wp2)
                go_ret
                exact ⟨by first | rfl | (simp; done) | (simp [*]; done), by repeat (first | exact Drawn0.refl _ | apply Drawn0.step)⟩
            · rw [if_neg c6] at H
              exact absurd H (by simp)
          · rw [if_neg c5] at H
            exact absurd H (by simp)
        · rw [if_neg c4] at H
          have c4b0 : decide (x5_1 < (l0.length : Int)) = false := decide_eq_false c4
          clear c4
          obtain rfl := Option.some.inj H
          go_wp2
          repeat (go_quiet (fail); try go_wp2)
          go_ret
          exact ⟨by first | rfl | (simp; done) | (simp [*]; done), by repeat (first | exact Drawn0.refl _ | apply Drawn0.step)⟩
  · rw [if_neg c3] at H
    have c3b0 : ((l0.length : Int) == (l1.length : Int)) = false := beq_eq_false_iff_ne.mpr c3
    have c3b1 : ((l0.length : Int) != (l1.length : Int)) = true := bne_iff_ne.mpr c3
    have c3b2 : (l0.length == l1.length) = false := by first | simpa using c3 | (simp at c3 ⊢; omega)
    obtain rfl := Option.some.inj H
    go_enter Tryd.func10, Tryd.ntmps10
    go_wp2
    repeat (go_quiet (fail); try go_wp2)
    go_ret
    exact ⟨by first | rfl | (simp; done) | (simp [*]; done), by repeat (first | exact Drawn0.refl _ | apply Drawn0.step)⟩
theorem laws_eqStringS.l0_any (l0 : List ByteArray) (hl : l0.length ≤ 140737488351232) : ∀ (d i : Nat), i + d = l0.length → Ev (fun k => laws_eqStringS.l0 k l0 l0 (i : Int)) true
  | 0, i, hi => by
    refine Ev.step (f := fun _ => some true) (fun k => ?_) (Ev.now _)
    simp only [laws_eqStringS.l0]
    rw [if_neg (by omega)]
  | d + 1, i, hi => by
    refine Ev.step (f := fun k => laws_eqStringS.l0 k l0 l0 ((i + 1 : Nat) : Int)) (fun k => ?_) (laws_eqStringS.l0_any l0 hl d (i + 1) (by omega))
    simp only [laws_eqStringS.l0]
    rw [if_pos (by omega), if_pos (by omega), if_pos (by omega), if_pos trivial, wrap64_id (x := (i : Int) + 1) (by omega) (by omega)]
    rfl
theorem laws_eqStringS.any (l0 : List ByteArray) (hl : l0.length ≤ 140737488351232) : Ev (fun k => laws_eqStringS.f k l0 l0) true := by
  refine Ev.congr (f := fun k => laws_eqStringS.l0 k l0 l0 ((0 : Nat) : Int)) (fun k => ?_) (laws_eqStringS.l0_any l0 hl l0.length 0 (by omega))
  unfold laws_eqStringS.f
  rw [if_pos rfl]
  rfl
end
end Go.Proofs.YtainlbmedpljlaaDoor.G
