-- written by this claim's own program out of the translation
import Derived.Test.YtbbchbmoaahidaaDoorG0
import Derived.Test.YtbbchbmoaahidaaDoorGSpecL09Coins
namespace Go.Proofs.YtbbchbmoaahidaaDoor.G
open Go.RowKit Go.Proofs.YtbbchbmoaahidaaDoorW.PrintWords Go.Proofs.YtbbchbmoaahidaaDoorW.PrintLast Go.Proofs.YtbbchbmoaahidaaDoorW.PrintMore
attribute [local go_sem] max2_int min2_int max_two min_two max_three min_three max_four min_four   -- for this text's walks alone
set_option linter.unusedVariables false
set_option linter.unusedSimpArgs false

/-! ### spec_SplitRun: function 18 -/
def spec_SplitRun.f (l0 : List ByteArray) : Option (List Int × List Int × Bool) := if l0.length ≤ 140737488351232 ∧ ∀ s ∈ l0, s.size ≤ 9223372036854775806 then some (splitOf l0) else none
set_option maxHeartbeats 8000000 in
set_option maxRecDepth 100000 in
theorem spec_SplitRun.calls (A0 : Option Addr) (c0 : Nat) (l0 : List ByteArray) (r1 : List Int) (r2 : List Int) (r3 : Bool) (w : World) (hr0 : Kd.C Kd.string w A0 l0.length l0) (hc0 : l0.length ≤ c0) (h : spec_SplitRun.f l0 = some (r1, r2, r3)) :
    Calls Tryd.prog 18 #[.slice A0 l0.length c0] w fun e w' => ∃ v0_ v1_ : Value, e = .returned (.tuple #[v0_, v1_, .bool r3]) ∧ Kd.R (Kd.int .i64) 2 w' w.heap.size (fun k_ => some k_ ≠ (v1_ : Value).ownBlock) v0_ r1 ∧ Kd.R (Kd.int .i64) 2 w' w.heap.size (fun k_ => some k_ ≠ (v0_ : Value).ownBlock) v1_ r2 ∧ Below w.heap.size w w' := by
  have HR0 := Aside0.mk hr0
  have HC0 := Aside0.mk hc0
  clear hr0 hc0
  unfold spec_SplitRun.f at h
  by_cases hs : l0.length ≤ 140737488351232 ∧ ∀ s ∈ l0, s.size ≤ 9223372036854775806
  · rw [if_pos hs] at h
    obtain ⟨kc, hkc⟩ := (spec_l09Coins.any l0 hs.1 hs.2).rounds
    by_cases hco : areCoins l0 = true
    · have H := Aside0.mk (show fin (srun l0 302 (List.replicate l0.length 0) [(List.range l0.length).map fun i : Nat => (i : Int)] [] []) = (r1, r2, r3) from by
        have := Option.some.inj h
        unfold splitOf at this
        rwa [if_pos hco] at this)
      rw [hco] at hkc
      have KC := Aside0.mk hkc
      have hN := areCoins_len hco
      have HZ := Aside0.mk (areCoins_size hco)
      clear h hs hkc hco
      have hN0 := hN.1
      have hN1 := hN.2
      clear hN
      have HB := Aside0.mk (Below.refl w.heap.size w)
      go_enter Tryd.func18, Tryd.ntmps18
      go_wp2_with (first
        | (go_at_call 41; refine (spec_l09Coins.calls kc A0 c0 l0 true _ HR0.out HC0.out KC.out).mono ?_; rintro e w1 ⟨rfl, ⟨nd, rfl⟩⟩)
        | ((with_reducible refine gate_dst (N := 21) rfl ?_); refine col_make (Kd.int .i64) (w0 := w) w.heap.size 3 rfl (N := 21) rfl 66 _ _ rfl (l0.length : Int) rfl rfl Tryd.underlying66 (.int .i64 0) 8 (by kernel_rfl) rfl (by decide) (by omega) (0 : Int) 3 (fun _ => 0) rfl (by omega) (by omega) ?mB ?mS ?_; (case mB => exact (by repeat (first | exact HB.out | apply pw_below_drewN))); (case mS => exact Nat.le_refl _); intro v5 w2 col1 hm1 ho1 hb1; have HO5 := Aside0.mk ho1; have HB1 := Aside0.mk hb1; clear hm1 ho1 hb1 HB)
        | ((with_reducible refine gate_dst (N := 22) rfl ?_); refine col_lit (Kd.int .i64) (w0 := w) w.heap.size 2 ?hg (N := 22) ?hd (xs := ([] : List Int)) (inner := []) 0 col1 ?hr ?hp HB1.out HB1.out.size (by simp) ?_; (case hd => rfl); (case hg => rfl); (case hr => first | (go_simp; done) | (go_simp; rfl)); (case hp => exact (Reps.none _ _)); intro v6 w3 col2 hm1 ho1 hb1; have HO6 := Aside0.mk ho1; have HB := Aside0.mk hb1; have HO5' := Aside0.mk (hm1 _ _ _ _ 3 _ _ (by decide) HO5.out); clear hm1 ho1 hb1 HB1 HO5; have HO5 := HO5'; clear HO5'))
      go_loopw [6, 7] (fun v6 v7 wr => ∃ (i : Nat) (col : Nat → Nat), v7 = .int .i64 i ∧ i ≤ l0.length ∧ Aside0 (Kd.R (Kd.int .i64) 2 wr w.heap.size (fun k => col k = 0) v6 ((List.range i).map fun i : Nat => (i : Int))) ∧ Aside0 (Kd.R (Kd.int .i64) 3 wr w.heap.size (fun k => col k = 3) v5 (List.replicate l0.length 0)) ∧ Aside0 (Below w.heap.size w wr)) (fun _ i _ => l0.length - (intOf i).toNat)
      case atStart => exact ⟨0, col2, rfl, by omega, HO6, by simpa using HO5, HB⟩
      case round =>
        clear KC HO5 HO6 HB
        obtain ⟨i, col, rfl, hi, HO6, HO5, HB⟩ := hrel
        by_cases hlt : i < l0.length
        · have hlr : (((List.range i).map fun i : Nat => (i : Int)).length + 1) * 8 ≤ 140737488355328 := by simp; omega
          go_wp2_with (first | ((with_reducible refine gate_builtin (b := .append) (xs := #[.tmp 29, .tmp 31]) rfl ?_); at_builtin; refine col_append (Kd.int .i64) (w0 := w) w.heap.size rfl (.tmp 29) (.tmp 31) 37 2 (.int .i64 0) 8 rfl Tryd.underlying37 info2 rfl (by decide) (by omega) _ ((List.range i).map fun i : Nat => (i : Int)) (i : Int) [.int .i64 (i : Int)] 0 col rfl rfl rfl HO6.out HB.out HB.out.size hlr ?_; intro v1 w1 col' hm1 ho1 hb1; have n0 := Aside0.mk ho1; have n1 := Aside0.mk hb1; have n2 := Aside0.mk (hm1 _ _ _ _ 3 _ _ (by decide) HO5.out); clear hm1 ho1 hb1 HO6 HO5 HB))
          go_roundw
          case measure => simp [intOf]; omega
          case rel => exact ⟨i + 1, col', by go_num, by omega, by rw [List.range_succ, List.map_append]; exact n0, n2, n1⟩
        · obtain rfl : i = l0.length := by omega
          clear hlt hi
          obtain ⟨A6, c6, e6⟩ := Kd.R_slice HO6.out
          rw [show ((List.range l0.length).map fun i : Nat => (i : Int)).length = l0.length by simp] at e6
          subst e6
          have HO6' := Aside0.mk (Kd.R_bound HO6.out)
          go_wp2_with (first
            | ((with_reducible refine gate_dst (N := 34) rfl ?_); refine col_lit (Kd.slice 2 (Kd.int .i64)) (w0 := w) w.heap.size 37 ?hg (N := 34) ?hd (xs := [((List.range l0.length).map fun i : Nat => (i : Int))]) (inner := [.slice A6 l0.length c6]) 0 col ?hr ?hp HB.out HB.out.size (by simp) ?_; (case hd => rfl); (case hg => rfl); (case hr => first | (go_simp; done) | (go_simp; rfl)); (case hp => exact Reps.snoc (Reps.none _ _) (Kd.M_row (Kd.R_mono HO6'.out (fun _ hk => ⟨hk.1, hk.2.2.1⟩))) rfl); intro v8 w4 col3 hm1 ho1 hb1; have HO8 := Aside0.mk ho1; have HB2 := Aside0.mk hb1; have HO5' := Aside0.mk (hm1 _ _ _ _ 3 _ _ (by decide) HO5.out); clear hm1 ho1 hb1 HB HO5 HO6 HO6')
            | ((with_reducible refine gate_dst (N := 35) rfl ?_); refine col_lit (Kd.int .i64) (w0 := w) w.heap.size 2 ?hg (N := 35) ?hd (xs := ([] : List Int)) (inner := []) 1 col3 ?hr ?hp HB2.out HB2.out.size (by simp) ?_; (case hd => rfl); (case hg => rfl); (case hr => first | (go_simp; done) | (go_simp; rfl)); (case hp => exact (Reps.none _ _)); intro v9 w5 col4 hm1 ho1 hb1; have HO9 := Aside0.mk ho1; have HB3 := Aside0.mk hb1; have HO5 := Aside0.mk (hm1 _ _ _ _ 3 _ _ (by decide) HO5'.out); have HO8' := Aside0.mk (hm1 _ _ _ _ 0 _ _ (by decide) HO8.out); clear hm1 ho1 hb1 HB2 HO5' HO8)
            | ((with_reducible refine gate_dst (N := 36) rfl ?_); refine col_lit (Kd.int .i64) (w0 := w) w.heap.size 2 ?hg (N := 36) ?hd (xs := ([] : List Int)) (inner := []) 2 col4 ?hr ?hp HB3.out HB3.out.size (by simp) ?_; (case hd => rfl); (case hg => rfl); (case hr => first | (go_simp; done) | (go_simp; rfl)); (case hp => exact (Reps.none _ _)); intro v10 w6 col5 hm1 ho1 hb1; have HO10 := Aside0.mk ho1; have HB := Aside0.mk hb1; have HO5' := Aside0.mk (hm1 _ _ _ _ 3 _ _ (by decide) HO5.out); have HO8 := Aside0.mk (hm1 _ _ _ _ 0 _ _ (by decide) HO8'.out); have HO9' := Aside0.mk (hm1 _ _ _ _ 1 _ _ (by decide) HO9.out); clear hm1 ho1 hb1 HB3 HO5 HO8' HO9))
          go_loopg [8, 9, 10] 302 (fun kq v8 v9 v10 w' => ∃ (L : List (List Int)) (tk sl od : List Int) (col : Nat → Nat), Aside0 (fin (srun l0 kq tk L.reverse sl od) = (r1, r2, r3)) ∧ Aside0 (okTk l0 tk ∧ ∀ s ∈ L, okSet l0 s) ∧ Aside0 (L.length ≤ sl.length + 1 ∧ od.length ≤ sl.length ∧ sl.length ≤ 300 ∧ sl.length + kq = 302) ∧ Aside0 (Kd.R (Kd.slice 2 (Kd.int .i64)) 37 w' w.heap.size (fun k => col k = 0) v8 L) ∧ Aside0 (Kd.R (Kd.int .i64) 2 w' w.heap.size (fun k => col k = 1) v9 sl) ∧ Aside0 (Kd.R (Kd.int .i64) 2 w' w.heap.size (fun k => col k = 2) v10 od) ∧ Aside0 (Kd.R (Kd.int .i64) 3 w' w.heap.size (fun k => col k = 3) v5 tk) ∧ Aside0 (Below w.heap.size w w'))
          case atStart => exact ⟨_, _, _, _, col5, H, ⟨⟨okTk_zero l0, fun s hs => by rw [List.mem_singleton.1 hs]; exact okSet_all l0 hN1⟩⟩, ⟨⟨by simp, by simp, by simp, by simp⟩⟩, HO8, HO9', HO10, HO5', HB⟩
          case round =>
            clear H HO8 HO9' HO10 HO5' HB
            obtain ⟨L, tk, sl, od, col, H, HI, HL, HO8, HO9, HO10, HO5, HB⟩ := hrel
            cases gk with
            | zero => exact absurd HL.out (by omega)
            | succ kq =>
              obtain ⟨A9, c9, rfl⟩ := Kd.R_slice HO9.out
              obtain ⟨A10, c10, rfl⟩ := Kd.R_slice HO10.out
              rcases nil_or_snoc L with rfl | ⟨L, s, rfl⟩
              · obtain ⟨A8, c8, rfl⟩ := Kd.R_slice HO8.out
                have H1 := H.out
                simp only [List.reverse_nil, srun, fin, Prod.mk.injEq] at H1
                obtain ⟨rfl, rfl, rfl⟩ := H1
                clear H
                go_wp2
                go_ret3
                exact ⟨_, _, rfl, col_apart (by decide) HO9.out HO10.out, col_apart (by decide) HO10.out HO9.out, HB.out⟩
              · have H1 := H.out
                rw [List.reverse_append, List.reverse_singleton, List.singleton_append] at H1
                simp only [srun] at H1
                obtain ⟨n, hn⟩ : ∃ n, n = L.length + 1 := ⟨_, rfl⟩
                obtain ⟨g8, c8, e8, _, _, _⟩ := Kd.R_form HO8.out (by simp)
                rw [show (L ++ [s]).length = n by simp [hn]] at e8
                subst e8
                obtain ⟨m, hm⟩ : ∃ m, m = L.length := ⟨_, rfl⟩
                have HT8 := Aside0.mk (show Kd.R (Kd.slice 2 (Kd.int .i64)) 37 wr w.heap.size (fun k => col k = 0) (.slice (some ⟨g8, 0, none⟩) m c8) L from by
                  have := Kd.R_take HO8.out (m := m) (by simp; omega)
                  rwa [List.take_append_of_le_length (by omega), List.take_of_length_le (by omega)] at this)
                have hcl := (Kd.R_reads' HO8.out).2.1
                obtain ⟨cs, _, hM, hcc⟩ := Kd.R_getA HO8.out ([] : List Int) (m : Int) (by omega) (by omega)
                rw [show (L ++ [s]).getD (m : Int).toNat [] = s by
                  rw [List.getD_eq_getElem?_getD, List.getElem?_append_right (by omega), show (m : Int).toNat - L.length = 0 by omega]; rfl] at hM
                obtain ⟨vs, rfl, hRs⟩ := hM
                have HOs := Aside0.mk (Kd.R_mono hRs (fun k hk => hk.1))
                obtain ⟨As, ks, rfl⟩ := Kd.R_slice hRs
                have hx : wr.cell? ⟨g8, m, none⟩ = some (.slice As s.length ks) := by
                  have := hcc 0 _ rfl
                  rwa [add_at, Nat.zero_add, show (m : Int).toNat * (Kd.slice 2 (Kd.int .i64)).sz + 0 = m from by show _ * 1 + 0 = _; omega] at this
                have HS := Aside0.mk (HI.out.2 s (by simp))
                have HI' := Aside0.mk (show okTk l0 tk ∧ ∀ s ∈ L, okSet l0 s from ⟨HI.out.1, fun x hx => HI.out.2 x (by simp [hx])⟩)
                have HL' := Aside0.mk (show n ≤ sl.length + 1 ∧ od.length ≤ sl.length ∧ sl.length ≤ 300 ∧ sl.length + (kq + 1) = 302 from by have := HL.out; simp at this; omega)
                have hw1 : wrap64 ((n : Int) - 1) = (m : Int) := (wrap64_id (x := (n : Int) - 1) (by have := HL'.out; omega) (by have := HL'.out; omega)).trans (by omega)
                have hn1 : m < n := by omega
                have hn3 : m ≤ c8 := by omega
                have hn0 : 0 < n := by omega
                have HN := Aside0.mk hn
                have HM := Aside0.mk hm
                clear hRs hcc HI HL H HO8 hn hm hcl
                by_cases h3 : sl.length = 300
                · rw [if_pos h3] at H1
                  simp only [fin, Prod.mk.injEq] at H1
                  obtain ⟨rfl, rfl, rfl⟩ := H1
                  have h3b : ((sl.length : Int) == 300) = true := by simp; omega
                  clear h3
                  go_wp2
                  go_ret3
                  exact ⟨_, _, rfl, Kd.R_nil _ _ _ _ _, Kd.R_nil _ _ _ _ _, HB.out⟩
                · rw [if_neg h3] at H1
                  have h3b : ((sl.length : Int) == 300) = false := by simp; omega
                  have hl9 : (sl.length + 1) * 8 ≤ 140737488355328 := by have := HL'.out; omega
                  by_cases hs1 : s.length = 1
                  · rw [if_pos (by omega), if_pos hs1] at H1
                    obtain ⟨gs, cs, es, _, _, _⟩ := Kd.R_form HOs.out (by omega)
                    injection es with es _ ec
                    subst es ec
                    have H := Aside0.mk H1
                    have hsb : ((s.length : Int) == 1) = true := by simp; omega
                    have hsc : decide ((s.length : Int) < 2) = true := decide_eq_true (by omega)
                    have hsd : 0 < s.length := by omega
                    have hl10 : (od.length + 1) * 8 ≤ 140737488355328 := by have := HL'.out; omega
                    clear H1 hs1
                    go_wp2_with (first
                      | ((with_reducible refine gate_builtin (b := .append) (xs := #[.tmp 54, .tmp 57]) rfl ?_); at_builtin; refine col_append (Kd.int .i64) (w0 := w) w.heap.size rfl (.tmp 54) (.tmp 57) 37 2 (.int .i64 0) 8 rfl Tryd.underlying37 info2 rfl (by decide) (by omega) (.slice A9 sl.length c9) (sl) ((s.length : Int)) [.int .i64 ((s.length : Int))] 1 col rfl rfl rfl HO9.out HB.out HB.out.size (by first | assumption | omega) ?_; intro v54 w1 col1 hm1 ho1 hb1; have m0 := Aside0.mk ho1; have mB := Aside0.mk hb1; have m1 := Aside0.mk (hm1 _ _ _ _ 0 _ _ (by decide) HT8.out); have m2 := Aside0.mk (hm1 _ _ _ _ 0 _ _ (by decide) HOs.out); have m3 := Aside0.mk (hm1 _ _ _ _ 2 _ _ (by decide) HO10.out); have m4 := Aside0.mk (hm1 _ _ _ _ 3 _ _ (by decide) HO5.out); clear hm1 ho1 hb1 HB HO9 HT8 HOs HO10 HO5; have HO9 := m0; have HB := mB; have HT8 := m1; have HOs := m2; have HO10 := m3; have HO5 := m4; clear m0 mB m1 m2 m3 m4; have hxs := (Kd.R_celln 0 HOs.out 0 (by omega) (by omega)).1; simp only [Int.toNat_zero] at hxs)
                      | ((with_reducible refine gate_builtin (b := .append) (xs := #[.tmp 62, .tmp 66]) rfl ?_); at_builtin; refine col_append (Kd.int .i64) (w0 := w) w.heap.size rfl (.tmp 62) (.tmp 66) 37 2 (.int .i64 0) 8 rfl Tryd.underlying37 info2 rfl (by decide) (by omega) (.slice A10 od.length c10) (od) (rdOf 0 s 0) [.int .i64 (rdOf 0 s 0)] 2 col1 rfl rfl rfl HO10.out HB.out HB.out.size (by first | assumption | omega) ?_; intro v62 w1 col2 hm1 ho1 hb1; have m0 := Aside0.mk ho1; have mB := Aside0.mk hb1; have m1 := Aside0.mk (hm1 _ _ _ _ 0 _ _ (by decide) HT8.out); have m2 := Aside0.mk (hm1 _ _ _ _ 1 _ _ (by decide) HO9.out); have m3 := Aside0.mk (hm1 _ _ _ _ 3 _ _ (by decide) HO5.out); clear hm1 ho1 hb1 HB HO10 HT8 HO9 HO5; have HO10 := m0; have HB := mB; have HT8 := m1; have HO9 := m2; have HO5 := m3; clear m0 mB m1 m2 m3))
                    go_roundg kq
                    case measure => omega
                    case rel => exact ⟨L, tk, sl ++ [(s.length : Int)], od ++ [rd s 0], col2, H, HI', ⟨by have := HL'.out; have := HM.out; have := HN.out; simp; omega⟩, HT8, HO9, HO10, HO5, HB⟩
                  · by_cases hs2 : s.length < 2
                    · rw [if_pos hs2, if_neg hs1] at H1
                      have H := Aside0.mk H1
                      have hsb : ((s.length : Int) == 1) = false := by simp; omega
                      have hsc : decide ((s.length : Int) < 2) = true := decide_eq_true (by omega)
                      clear H1 hs1 hs2
                      go_wp2_with (first
                        | ((with_reducible refine gate_builtin (b := .append) (xs := #[.tmp 54, .tmp 57]) rfl ?_); at_builtin; refine col_append (Kd.int .i64) (w0 := w) w.heap.size rfl (.tmp 54) (.tmp 57) 37 2 (.int .i64 0) 8 rfl Tryd.underlying37 info2 rfl (by decide) (by omega) (.slice A9 sl.length c9) (sl) ((s.length : Int)) [.int .i64 ((s.length : Int))] 1 col rfl rfl rfl HO9.out HB.out HB.out.size (by first | assumption | omega) ?_; intro v54 w1 col1 hm1 ho1 hb1; have m0 := Aside0.mk ho1; have mB := Aside0.mk hb1; have m1 := Aside0.mk (hm1 _ _ _ _ 0 _ _ (by decide) HT8.out); have m2 := Aside0.mk (hm1 _ _ _ _ 0 _ _ (by decide) HOs.out); have m3 := Aside0.mk (hm1 _ _ _ _ 2 _ _ (by decide) HO10.out); have m4 := Aside0.mk (hm1 _ _ _ _ 3 _ _ (by decide) HO5.out); clear hm1 ho1 hb1 HB HO9 HT8 HOs HO10 HO5; have HO9 := m0; have HB := mB; have HT8 := m1; have HOs := m2; have HO10 := m3; have HO5 := m4; clear m0 mB m1 m2 m3 m4))
                      go_roundg kq
                      case measure => omega
                      case rel => exact ⟨L, tk, sl ++ [(s.length : Int)], od, col1, H, HI', ⟨by have := HL'.out; have := HM.out; have := HN.out; simp; omega⟩, HT8, HO9, HO10, HO5, HB⟩
                    · rw [if_neg hs2] at H1
                      obtain ⟨gs, cs, es, _, _, _⟩ := Kd.R_form HOs.out (by omega)
                      injection es with es _ ec
                      subst es ec
                      obtain ⟨RS, hRS⟩ : ∃ RS, RS = spin l0 s tk [] [] := ⟨_, rfl⟩
                      rw [← hRS] at H1
                      have HRS := Aside0.mk hRS
                      have H := Aside0.mk H1
                      have hsb : ((s.length : Int) == 1) = false := by simp; omega
                      have hsc : decide ((s.length : Int) < 2) = false := decide_eq_false (by omega)
                      clear H1 hs1 hs2 hRS
                      go_wp2_with (first
                        | ((with_reducible refine gate_builtin (b := .append) (xs := #[.tmp 54, .tmp 57]) rfl ?_); at_builtin; refine col_append (Kd.int .i64) (w0 := w) w.heap.size rfl (.tmp 54) (.tmp 57) 37 2 (.int .i64 0) 8 rfl Tryd.underlying37 info2 rfl (by decide) (by omega) (.slice A9 sl.length c9) (sl) ((s.length : Int)) [.int .i64 ((s.length : Int))] 1 col rfl rfl rfl HO9.out HB.out HB.out.size (by first | assumption | omega) ?_; intro v54 w1 col1 hm1 ho1 hb1; have m0 := Aside0.mk ho1; have mB := Aside0.mk hb1; have m1 := Aside0.mk (hm1 _ _ _ _ 0 _ _ (by decide) (by (with_reducible repeat (first | apply Kd.R_alloc | apply Kd.R_drewN | apply Kd.R_drew)); exact HT8.out)); have m2 := Aside0.mk (hm1 _ _ _ _ 0 _ _ (by decide) (by (with_reducible repeat (first | apply Kd.R_alloc | apply Kd.R_drewN | apply Kd.R_drew)); exact HOs.out)); have m3 := Aside0.mk (hm1 _ _ _ _ 2 _ _ (by decide) (by (with_reducible repeat (first | apply Kd.R_alloc | apply Kd.R_drewN | apply Kd.R_drew)); exact HO10.out)); have m4 := Aside0.mk (hm1 _ _ _ _ 3 _ _ (by decide) (by (with_reducible repeat (first | apply Kd.R_alloc | apply Kd.R_drewN | apply Kd.R_drew)); exact HO5.out)); clear hm1 ho1 hb1 HB HO9 HT8 HOs HO10 HO5; have HO9 := m0; have HB := mB; have HT8 := m1; have HOs := m2; have HO10 := m3; have HO5 := m4; clear m0 mB m1 m2 m3 m4)
                        | ((with_reducible refine gate_dst (N := 71) rfl ?_); refine col_lit (Kd.int .i64) (w0 := w) w.heap.size 2 ?hg (N := 71) ?hd (xs := ([] : List Int)) (inner := []) 4 col1 ?hr ?hp HB.out HB.out.size (by simp) ?_; (case hd => rfl); (case hg => rfl); (case hr => first | (go_simp; done) | (go_simp; rfl)); (case hp => exact (Reps.none _ _)); intro v71 w1 col2 hm1 ho1 hb1; have HO12 := Aside0.mk ho1; have mB := Aside0.mk hb1; have m1 := Aside0.mk (hm1 _ _ _ _ 0 _ _ (by decide) HT8.out); have m2 := Aside0.mk (hm1 _ _ _ _ 0 _ _ (by decide) HOs.out); have m3 := Aside0.mk (hm1 _ _ _ _ 2 _ _ (by decide) HO10.out); have m4 := Aside0.mk (hm1 _ _ _ _ 3 _ _ (by decide) HO5.out); have m5 := Aside0.mk (hm1 _ _ _ _ 1 _ _ (by decide) HO9.out); clear hm1 ho1 hb1 HB HT8 HOs HO10 HO5 HO9; have HB := mB; have HT8 := m1; have HOs := m2; have HO10 := m3; have HO5 := m4; have HO9 := m5; clear mB m1 m2 m3 m4 m5)
                        | ((with_reducible refine gate_dst (N := 72) rfl ?_); refine col_lit (Kd.int .i64) (w0 := w) w.heap.size 2 ?hg (N := 72) ?hd (xs := ([] : List Int)) (inner := []) 5 col2 ?hr ?hp HB.out HB.out.size (by simp) ?_; (case hd => rfl); (case hg => rfl); (case hr => first | (go_simp; done) | (go_simp; rfl)); (case hp => exact (Reps.none _ _)); intro v72 w1 col3 hm1 ho1 hb1; have HO13 := Aside0.mk ho1; have mB := Aside0.mk hb1; have m1 := Aside0.mk (hm1 _ _ _ _ 0 _ _ (by decide) HT8.out); have m2 := Aside0.mk (hm1 _ _ _ _ 0 _ _ (by decide) HOs.out); have m3 := Aside0.mk (hm1 _ _ _ _ 2 _ _ (by decide) HO10.out); have m4 := Aside0.mk (hm1 _ _ _ _ 3 _ _ (by decide) HO5.out); have m5 := Aside0.mk (hm1 _ _ _ _ 1 _ _ (by decide) HO9.out); have m6 := Aside0.mk (hm1 _ _ _ _ 4 _ _ (by decide) HO12.out); clear hm1 ho1 hb1 HB HT8 HOs HO10 HO5 HO9 HO12; have HB := mB; have HT8 := m1; have HOs := m2; have HO10 := m3; have HO5 := m4; have HO9 := m5; have HO12 := m6; clear mB m1 m2 m3 m4 m5 m6))
                      clear hx
                      go_loopw [12, 13, 14] (fun v12 v13 v14 wr => ∃ (i : Nat) (o z tk : List Int) (col : Nat → Nat), v14 = .int .i64 i ∧ i ≤ s.length ∧ Aside0 (spin l0 (s.drop i) tk o z = RS) ∧ Aside0 (okTk l0 tk ∧ o.length ≤ i ∧ z.length ≤ i ∧ (∀ x ∈ o, 0 ≤ x ∧ x < (l0.length : Int)) ∧ ∀ x ∈ z, 0 ≤ x ∧ x < (l0.length : Int)) ∧ Aside0 (Kd.R (Kd.slice 2 (Kd.int .i64)) 37 wr w.heap.size (fun k => col k = 0) (.slice (some ⟨g8, 0, none⟩) m c8) L) ∧ Aside0 (Kd.R (Kd.int .i64) 2 wr w.heap.size (fun k => col k = 0) (.slice (some ⟨gs, 0, none⟩) s.length ks) s) ∧ Aside0 (Kd.R (Kd.int .i64) 2 wr w.heap.size (fun k => col k = 1) v54 (sl ++ [(s.length : Int)])) ∧ Aside0 (Kd.R (Kd.int .i64) 2 wr w.heap.size (fun k => col k = 2) (.slice A10 od.length c10) od) ∧ Aside0 (Kd.R (Kd.int .i64) 3 wr w.heap.size (fun k => col k = 3) v5 tk) ∧ Aside0 (Kd.R (Kd.int .i64) 2 wr w.heap.size (fun k => col k = 4) v12 o) ∧ Aside0 (Kd.R (Kd.int .i64) 2 wr w.heap.size (fun k => col k = 5) v13 z) ∧ Aside0 (Below w.heap.size w wr)) (fun _ _ i _ => s.length - (intOf i).toNat)
                      case atStart => exact ⟨0, [], [], tk, col3, rfl, by omega, ⟨HRS.out.symm⟩, ⟨⟨HI'.out.1, by simp, by simp, by simp, by simp⟩⟩, HT8, HOs, HO9, HO10, HO5, HO12, HO13, HB⟩
                      case round =>
                        clear HRS HT8 HOs HO9 HO10 HO5 HO12 HO13 HB
                        obtain ⟨i, o, z, tk, col, rfl, hi, HRS, HK, HT8, HOs, HO9, HO10, HO5, HO12, HO13, HB⟩ := hrel
                        by_cases hlt : i < s.length
                        · obtain ⟨x, hxd⟩ : ∃ x, x = rd s (i : Int) := ⟨_, rfl⟩
                          have hxm : 0 ≤ x ∧ x < (l0.length : Int) := by rw [hxd]; exact HS.out.2 _ (rd_mem s i hlt)
                          have hx0 := hxm.1
                          have hx1 := hxm.2
                          have hdr : s.drop i = x :: s.drop (i + 1) := by rw [hxd]; exact rd_drop s i hlt
                          have hxs := (Kd.R_celln 0 HOs.out (i : Int) (by omega) (by omega)).1
                          rw [show rdOf 0 s (i : Int) = x from hxd.symm] at hxs
                          simp only [Int.toNat_natCast] at hxs
                          have htl : tk.length = l0.length := HK.out.1.1
                          have hx2 : x < (tk.length : Int) := by omega
                          obtain ⟨g5, c5, e5, _, _, _⟩ := Kd.R_form HO5.out (by omega)
                          subst e5
                          obtain ⟨u, hu⟩ : ∃ u, rd tk x = u := ⟨_, rfl⟩
                          obtain ⟨c, hcd⟩ : ∃ c, rdOf ByteArray.empty l0 x = c := ⟨_, rfl⟩
                          have hxt := (Kd.R_celln 0 HO5.out x hx0 hx2).1
                          rw [show rdOf 0 tk x = u from hu] at hxt
                          obtain ⟨ad, ea, hxc⟩ := Kd.at_string (Kd.C_below HR0.out HB.out) x hx0 hx1
                          cases ea
                          rw [hcd] at hxc
                          have huc := HK.out.1.2 x hx0 hx1
                          rw [hu, hcd] at huc
                          have hu0 := huc.1
                          have hu1 := huc.2
                          have hcz := HZ.out x hx0 hx1
                          rw [hcd] at hcz
                          have hsl := HS.out.1
                          clear hxm hxd huc htl
                          by_cases he : u = (c.size : Int)
                          · have heb : (u == (c.size : Int)) = true := by simp [he]
                            have hspin := HRS.out
                            rw [hdr] at hspin
                            simp only [spin] at hspin
                            rw [if_pos (by rw [hu, hcd]; exact he)] at hspin
                            subst hspin
                            have H1 := H.out
                            simp only [fin, Prod.mk.injEq] at H1
                            obtain ⟨rfl, rfl, rfl⟩ := H1
                            clear H he hdr hu hcd HRS
                            go_wp2
                            go_quiet (fail)
                            go_wp2
                            go_ret3
                            exact ⟨_, _, rfl, Kd.R_nil _ _ _ _ _, Kd.R_nil _ _ _ _ _, (by repeat (first | exact HB.out | apply below_alloc | apply pw_below_drewN))⟩
                          · have heb : (u == (c.size : Int)) = false := by simpa using he
                            have hu2 : u < (c.size : Int) := by omega
                            have HE := Aside0.mk he
                            have hbt := bt_at c u
                            by_cases hb : bt c u = 49
                            · have hbb : (bt c u == 49) = true := by simp [hb]
                              have hspin := HRS.out
                              rw [hdr] at hspin
                              simp only [spin] at hspin
                              rw [if_neg (by rw [hu, hcd]; exact he), if_pos (by rw [hu, hcd]; exact hb)] at hspin
                              have HRS2 := Aside0.mk hspin
                              have hl12 : (o.length + 1) * 8 ≤ 140737488355328 := by have := HK.out; have := HS.out.1; omega
                              clear hspin HRS he hb
                              go_wp2
                              go_quiet (fail)
                              go_wp2
                              go_quiet (fail)
                              go_wp2_with ((with_reducible refine gate_builtin (b := .append) (xs := #[.tmp 103, .tmp 105]) rfl ?_); at_builtin; refine col_append (Kd.int .i64) (w0 := w) w.heap.size rfl (.tmp 103) (.tmp 105) 37 2 (.int .i64 0) 8 rfl Tryd.underlying37 info2 rfl (by decide) (by omega) (u12) (o) (x) [.int .i64 (x)] 4 col rfl rfl rfl (by (with_reducible repeat (first | apply Kd.R_alloc | apply Kd.R_drewN | apply Kd.R_drew)); exact HO12.out) (by repeat (first | exact HB.out | apply below_alloc | apply pw_below_drewN)) (below_size (by repeat (first | exact HB.out | apply below_alloc | apply pw_below_drewN))) (by first | assumption | omega) ?_; intro vn w1 col' hm1 ho1 hb1; have m0 := Aside0.mk ho1; have mB := Aside0.mk hb1; have m1 := Aside0.mk (hm1 _ _ _ _ 0 _ _ (by decide) (by (with_reducible repeat (first | apply Kd.R_alloc | apply Kd.R_drewN | apply Kd.R_drew)); exact HT8.out)); have m2 := Aside0.mk (hm1 _ _ _ _ 0 _ _ (by decide) (by (with_reducible repeat (first | apply Kd.R_alloc | apply Kd.R_drewN | apply Kd.R_drew)); exact HOs.out)); have m3 := Aside0.mk (hm1 _ _ _ _ 1 _ _ (by decide) (by (with_reducible repeat (first | apply Kd.R_alloc | apply Kd.R_drewN | apply Kd.R_drew)); exact HO9.out)); have m4 := Aside0.mk (hm1 _ _ _ _ 2 _ _ (by decide) (by (with_reducible repeat (first | apply Kd.R_alloc | apply Kd.R_drewN | apply Kd.R_drew)); exact HO10.out)); have m5 := Aside0.mk (hm1 _ _ _ _ 3 _ _ (by decide) (by (with_reducible repeat (first | apply Kd.R_alloc | apply Kd.R_drewN | apply Kd.R_drew)); exact HO5.out)); have m6 := Aside0.mk (hm1 _ _ _ _ 5 _ _ (by decide) (by (with_reducible repeat (first | apply Kd.R_alloc | apply Kd.R_drewN | apply Kd.R_drew)); exact HO13.out)); clear hm1 ho1 hb1 HB HO12 HT8 HOs HO9 HO10 HO5 HO13; have HO12 := m0; have HB := mB; have HT8 := m1; have HOs := m2; have HO9 := m3; have HO10 := m4; have HO5 := m5; have HO13 := m6; clear m0 mB m1 m2 m3 m4 m5 m6; obtain ⟨hxu, hfu⟩ := Kd.R_celln 0 HO5.out x hx0 hx2; have hputg := Kd.R_putg HO5.out x (rd tk x + 1); have HX := Aside0.mk hputg.1; have HMV := Aside0.mk (show Moved 3 col' col' w1 (w1.setCell ⟨g5, x.toNat, none⟩ (.int .i64 (u + 1))) from by rw [← hu]; exact moved_same (HO5.out.1 g5 rfl) hputg.2); clear hputg; rw [show rdOf 0 tk x = u from hu] at hxu; have GB5 := Aside0.mk (Kd.R_typed HO5.out g5 rfl).choose_spec)
                              go_roundw
                              case measure => simp [intOf]; omega
                              case rel => exact ⟨i + 1, o ++ [x], z, tk.set x.toNat (rd tk x + 1), col', by go_num, by omega, HRS2, ⟨⟨okTk_set HK.out.1 hx0 hx1 (by rw [hu, hcd]; exact HE.out), by have := HK.out; simp; omega, by have := HK.out; simp; omega, fun y hy => (List.mem_append.1 hy).elim (HK.out.2.2.2.1 y) (fun h => by rw [List.mem_singleton.1 h]; exact ⟨hx0, hx1⟩), HK.out.2.2.2.2⟩⟩, ⟨HMV.out _ _ _ _ 0 _ _ (by decide) HT8.out⟩, ⟨HMV.out _ _ _ _ 0 _ _ (by decide) HOs.out⟩, ⟨HMV.out _ _ _ _ 1 _ _ (by decide) HO9.out⟩, ⟨HMV.out _ _ _ _ 2 _ _ (by decide) HO10.out⟩, ⟨by rw [← hu]; exact HX.out⟩, ⟨HMV.out _ _ _ _ 4 _ _ (by decide) HO12.out⟩, ⟨HMV.out _ _ _ _ 5 _ _ (by decide) HO13.out⟩, ⟨below_set HB.out (Kd.R_base HO5.out g5 rfl)⟩⟩
                            · have hbb : (bt c u == 49) = false := by simpa using hb
                              have hspin := HRS.out
                              rw [hdr] at hspin
                              simp only [spin] at hspin
                              rw [if_neg (by rw [hu, hcd]; exact he), if_neg (by rw [hu, hcd]; exact hb)] at hspin
                              have HRS2 := Aside0.mk hspin
                              have hl12 : (z.length + 1) * 8 ≤ 140737488355328 := by have := HK.out; have := HS.out.1; omega
                              clear hspin HRS he hb
                              go_wp2
                              go_quiet (fail)
                              go_wp2
                              go_quiet (fail)
                              go_wp2_with ((with_reducible refine gate_builtin (b := .append) (xs := #[.tmp 107, .tmp 109]) rfl ?_); at_builtin; refine col_append (Kd.int .i64) (w0 := w) w.heap.size rfl (.tmp 107) (.tmp 109) 37 2 (.int .i64 0) 8 rfl Tryd.underlying37 info2 rfl (by decide) (by omega) (u13) (z) (x) [.int .i64 (x)] 5 col rfl rfl rfl (by (with_reducible repeat (first | apply Kd.R_alloc | apply Kd.R_drewN | apply Kd.R_drew)); exact HO13.out) (by repeat (first | exact HB.out | apply below_alloc | apply pw_below_drewN)) (below_size (by repeat (first | exact HB.out | apply below_alloc | apply pw_below_drewN))) (by first | assumption | omega) ?_; intro vn w1 col' hm1 ho1 hb1; have m0 := Aside0.mk ho1; have mB := Aside0.mk hb1; have m1 := Aside0.mk (hm1 _ _ _ _ 0 _ _ (by decide) (by (with_reducible repeat (first | apply Kd.R_alloc | apply Kd.R_drewN | apply Kd.R_drew)); exact HT8.out)); have m2 := Aside0.mk (hm1 _ _ _ _ 0 _ _ (by decide) (by (with_reducible repeat (first | apply Kd.R_alloc | apply Kd.R_drewN | apply Kd.R_drew)); exact HOs.out)); have m3 := Aside0.mk (hm1 _ _ _ _ 1 _ _ (by decide) (by (with_reducible repeat (first | apply Kd.R_alloc | apply Kd.R_drewN | apply Kd.R_drew)); exact HO9.out)); have m4 := Aside0.mk (hm1 _ _ _ _ 2 _ _ (by decide) (by (with_reducible repeat (first | apply Kd.R_alloc | apply Kd.R_drewN | apply Kd.R_drew)); exact HO10.out)); have m5 := Aside0.mk (hm1 _ _ _ _ 3 _ _ (by decide) (by (with_reducible repeat (first | apply Kd.R_alloc | apply Kd.R_drewN | apply Kd.R_drew)); exact HO5.out)); have m6 := Aside0.mk (hm1 _ _ _ _ 4 _ _ (by decide) (by (with_reducible repeat (first | apply Kd.R_alloc | apply Kd.R_drewN | apply Kd.R_drew)); exact HO12.out)); clear hm1 ho1 hb1 HB HO13 HT8 HOs HO9 HO10 HO5 HO12; have HO13 := m0; have HB := mB; have HT8 := m1; have HOs := m2; have HO9 := m3; have HO10 := m4; have HO5 := m5; have HO12 := m6; clear m0 mB m1 m2 m3 m4 m5 m6; obtain ⟨hxu, hfu⟩ := Kd.R_celln 0 HO5.out x hx0 hx2; have hputg := Kd.R_putg HO5.out x (rd tk x + 1); have HX := Aside0.mk hputg.1; have HMV := Aside0.mk (show Moved 3 col' col' w1 (w1.setCell ⟨g5, x.toNat, none⟩ (.int .i64 (u + 1))) from by rw [← hu]; exact moved_same (HO5.out.1 g5 rfl) hputg.2); clear hputg; rw [show rdOf 0 tk x = u from hu] at hxu; have GB5 := Aside0.mk (Kd.R_typed HO5.out g5 rfl).choose_spec)
                              go_roundw
                              case measure => simp [intOf]; omega
                              case rel => exact ⟨i + 1, o, z ++ [x], tk.set x.toNat (rd tk x + 1), col', by go_num, by omega, HRS2, ⟨⟨okTk_set HK.out.1 hx0 hx1 (by rw [hu, hcd]; exact HE.out), by have := HK.out; simp; omega, by have := HK.out; simp; omega, HK.out.2.2.2.1, fun y hy => (List.mem_append.1 hy).elim (HK.out.2.2.2.2 y) (fun h => by rw [List.mem_singleton.1 h]; exact ⟨hx0, hx1⟩)⟩⟩, ⟨HMV.out _ _ _ _ 0 _ _ (by decide) HT8.out⟩, ⟨HMV.out _ _ _ _ 0 _ _ (by decide) HOs.out⟩, ⟨HMV.out _ _ _ _ 1 _ _ (by decide) HO9.out⟩, ⟨HMV.out _ _ _ _ 2 _ _ (by decide) HO10.out⟩, ⟨by rw [← hu]; exact HX.out⟩, ⟨HMV.out _ _ _ _ 4 _ _ (by decide) HO12.out⟩, ⟨HMV.out _ _ _ _ 5 _ _ (by decide) HO13.out⟩, ⟨below_set HB.out (Kd.R_base HO5.out g5 rfl)⟩⟩
                        · have hspin := HRS.out
                          rw [List.drop_eq_nil_of_le (by omega)] at hspin
                          simp only [spin] at hspin
                          subst hspin
                          have H1 := H.out
                          simp only at H1
                          have H2 := Aside0.mk (show fin (srun l0 kq tk (L ++ [o, z]).reverse (sl ++ [(s.length : Int)]) od) = (r1, r2, r3) from by rw [List.reverse_append]; exact H1)
                          obtain ⟨A12, c12, rfl⟩ := Kd.R_slice HO12.out
                          obtain ⟨A13, c13, rfl⟩ := Kd.R_slice HO13.out
                          have k8 := Aside0.mk (re_other (x := 5) (y := 4) (by decide) HT8.out)
                          have k9 := Aside0.mk (re_other (x := 5) (y := 4) (by decide) HO9.out)
                          have k10 := Aside0.mk (re_other (x := 5) (y := 4) (by decide) HO10.out)
                          have k5 := Aside0.mk (re_other (x := 5) (y := 4) (by decide) HO5.out)
                          have k12 := Aside0.mk (Kd.R_bound (re_other (x := 5) (y := 4) (by decide) HO12.out))
                          have k13 := Aside0.mk (Kd.R_bound (re_self (y := 4) HO13.out))
                          have hlL : (L.length + [o, z].length) * 24 ≤ 140737488355328 := by have := HL'.out; have := HM.out; have := HN.out; simp; omega
                          have KI := Aside0.mk (show okTk l0 tk ∧ ∀ s ∈ L ++ [o, z], okSet l0 s from ⟨HK.out.1, fun y hy => by
                            have hz := HS.out.1
                            have hk := HK.out
                            rcases List.mem_append.1 hy with hy | hy
                            · exact HI'.out.2 y hy
                            · rcases List.mem_cons.1 hy with rfl | hy
                              · exact ⟨by omega, hk.2.2.2.1⟩
                              · rw [List.mem_singleton.1 hy]
                                exact ⟨by omega, hk.2.2.2.2⟩⟩)
                          clear H1 H HT8 HO9 HO10 HO5 HO12 HO13 HOs
                          go_wp2_with (first
                            | ((with_reducible refine gate_dst (N := 120) rfl ?_); refine col_lit (Kd.slice 2 (Kd.int .i64)) (w0 := w) w.heap.size 37 ?hg (N := 120) ?hd (xs := [o, z]) (inner := [.slice A12 o.length c12, .slice A13 z.length c13]) 4 (re col 5 4) ?hr ?hp HB.out HB.out.size (by simp) ?_; (case hd => rfl); (case hg => rfl); (case hr => first | (go_simp; done) | (go_simp; rfl)); (case hp => exact Reps.snoc (Reps.snoc (Reps.none _ _) (Kd.M_row (Kd.R_mono k12.out (fun _ hk => ⟨hk.1, hk.2.2.1⟩))) rfl) (Kd.M_row (Kd.R_mono k13.out (fun _ hk => ⟨hk.1, hk.2.2.1⟩))) rfl); intro v120 w1 col' hm1 ho1 hb1; have HU := Aside0.mk ho1; have mB := Aside0.mk hb1; have HT8 := Aside0.mk (hm1 _ _ _ _ 0 _ _ (by decide) k8.out); have HO9 := Aside0.mk (hm1 _ _ _ _ 1 _ _ (by decide) k9.out); have HO10 := Aside0.mk (hm1 _ _ _ _ 2 _ _ (by decide) k10.out); have HO5 := Aside0.mk (hm1 _ _ _ _ 3 _ _ (by decide) k5.out); clear hm1 ho1 hb1 HB k8 k9 k10 k5 k12 k13; have HB := mB; clear mB)
                            | ((with_reducible refine gate_builtin (b := .append) (xs := #[.tmp 117, .tmp 120]) rfl ?_); at_builtin; refine col_append_row (Kd.slice 2 (Kd.int .i64)) (w0 := w) w.heap.size rfl (.tmp 117) (.tmp 120) 67 37 (.slice none 0 0) 24 rfl Tryd.underlying67 (by kernel_rfl) rfl (by decide) (by omega) (.slice (some ⟨g8, 0, none⟩) m c8) v120 L [o, z] 0 4 (by decide) col' rfl rfl HT8.out HU.out HB.out HB.out.size hlL ?_; intro vr w2 col4 hm1 ho1 hb1; have mB := Aside0.mk hb1; have m8 := Aside0.mk ho1; have m9 := Aside0.mk (hm1 _ _ _ _ 1 _ _ (by decide) (by decide) HO9.out); have m10 := Aside0.mk (hm1 _ _ _ _ 2 _ _ (by decide) (by decide) HO10.out); have m5 := Aside0.mk (hm1 _ _ _ _ 3 _ _ (by decide) (by decide) HO5.out); clear hm1 ho1 hb1 HB HT8 HU HO9 HO10 HO5))
                          go_roundg kq
                          case measure => omega
                          case rel => exact ⟨L ++ [o, z], tk, sl ++ [(s.length : Int)], od, col4, H2, KI, ⟨by have := HL'.out; have := HM.out; have := HN.out; simp; omega⟩, m8, m9, m10, m5, mB⟩
    · have e := Option.some.inj h
      unfold splitOf at e
      rw [if_neg hco] at e
      simp only [Prod.mk.injEq] at e
      obtain ⟨rfl, rfl, rfl⟩ := e
      rw [show areCoins l0 = false by simpa using hco] at hkc
      have KC := Aside0.mk hkc
      clear h hs hkc hco
      have HB := Aside0.mk (Below.refl w.heap.size w)
      go_enter Tryd.func18, Tryd.ntmps18
      go_wp2_with (go_at_call 41; refine (spec_l09Coins.calls kc A0 c0 l0 false _ HR0.out HC0.out KC.out).mono ?_; rintro e w1 ⟨rfl, ⟨nd, rfl⟩⟩)
      go_ret3
      exact ⟨_, _, rfl, Kd.R_nil _ _ _ _ _, Kd.R_nil _ _ _ _ _, by repeat (first | exact HB.out | apply pw_below_drewN)⟩
  · rw [if_neg hs] at h; cases h

end Go.Proofs.YtbbchbmoaahidaaDoor.G
