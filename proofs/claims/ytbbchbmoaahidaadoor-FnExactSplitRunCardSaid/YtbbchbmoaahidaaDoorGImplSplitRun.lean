-- written by this claim's own program out of the translation
import Derived.Test.YtbbchbmoaahidaaDoorG0
import Derived.Test.YtbbchbmoaahidaaDoorGImplAreBits
import Derived.Test.YtbbchbmoaahidaaDoorGImplWithin
import Derived.Test.YtbbchbmoaahidaaDoorGImplAreStations
namespace Go.Proofs.YtbbchbmoaahidaaDoor.G
open Go.RowKit Go.Proofs.YtbbchbmoaahidaaDoorW.PrintWords Go.Proofs.YtbbchbmoaahidaaDoorW.PrintLast Go.Proofs.YtbbchbmoaahidaaDoorW.PrintMore
attribute [local go_sem] max2_int min2_int max_two min_two max_three min_three max_four min_four   -- for this text's walks alone
set_option linter.unusedVariables false
set_option linter.unusedSimpArgs false

/-! ### impl_SplitRun: function 19 -/
theorem impl_areStations.run (n : Int) (w : World) : Calls Tryd.prog 42 #[.int .i64 n] w fun e w' => e = .returned (.bool (decide (1 ≤ n) && decide (n ≤ 12))) ∧ Drawn0 w w' := by
  have h : impl_areStations.f n = some (decide (1 ≤ n) && decide (n ≤ 12)) := by
    unfold impl_areStations.f impl_within.f
    by_cases h : 1 ≤ n
    · rw [if_pos (by omega), decide_eq_true h]; rfl
    · rw [if_neg (by omega), decide_eq_false h]; rfl
  exact impl_areStations.calls n _ w h
def okCoin (c : ByteArray) : Bool := bitsB c && decide (c.size ≤ 40)
theorem areCoins_of {coins : List ByteArray} (h1 : 1 ≤ coins.length) (h2 : coins.length ≤ 12) (h : coins.all okCoin = true) : areCoins coins = true := by
  unfold areCoins
  rw [decide_eq_true h1, decide_eq_true h2]
  exact h
theorem areCoins_not {coins : List ByteArray} {i : Nat} (hi : i < coins.length) (h : okCoin coins[i] = false) : areCoins coins = false := by
  unfold areCoins
  have : (coins.all fun c => bitsB c && decide (c.size ≤ 40)) = false := List.all_eq_false.2 ⟨_, List.getElem_mem hi, by simpa [okCoin] using h⟩
  rw [this, Bool.and_false]
def impl_SplitRun.f (l0 : List ByteArray) : Option (List Int × List Int × Bool) := if l0.length ≤ 140737488351232 ∧ ∀ s ∈ l0, s.size ≤ 9223372036854775806 then some (splitOf l0) else none
set_option maxHeartbeats 8000000 in
set_option maxRecDepth 100000 in
theorem impl_SplitRun.calls (A0 : Option Addr) (c0 : Nat) (l0 : List ByteArray) (r1 : List Int) (r2 : List Int) (r3 : Bool) (w : World) (hr0 : Kd.C Kd.string w A0 l0.length l0) (hc0 : l0.length ≤ c0) (h : impl_SplitRun.f l0 = some (r1, r2, r3)) :
    Calls Tryd.prog 19 #[.slice A0 l0.length c0] w fun e w' => ∃ v0_ v1_ : Value, e = .returned (.tuple #[v0_, v1_, .bool r3]) ∧ Kd.R (Kd.int .i64) 2 w' w.heap.size (fun k_ => some k_ ≠ (v1_ : Value).ownBlock) v0_ r1 ∧ Kd.R (Kd.int .i64) 2 w' w.heap.size (fun k_ => some k_ ≠ (v0_ : Value).ownBlock) v1_ r2 ∧ Below w.heap.size w w' := by
  have HR0 := Aside0.mk hr0
  have HC0 := Aside0.mk hc0
  clear hr0 hc0
  unfold impl_SplitRun.f at h
  by_cases hs : l0.length ≤ 140737488351232 ∧ ∀ s ∈ l0, s.size ≤ 9223372036854775806
  · rw [if_pos hs] at h
    have H0 := Aside0.mk (Option.some.inj h)
    have HSZ := Aside0.mk hs.2
    have hlen := hs.1
    have HB := Aside0.mk (Below.refl w.heap.size w)
    have hst := fun W => impl_areStations.run (l0.length : Int) W
    clear h hs
    by_cases hN : 1 ≤ l0.length ∧ l0.length ≤ 12
    · have hN0 := hN.1
      have hN1 := hN.2
      simp only [show decide ((1 : Int) ≤ (l0.length : Int)) = true from decide_eq_true (by omega), show decide ((l0.length : Int) ≤ 12) = true from decide_eq_true (by omega), Bool.and_self] at hst
      have HST := Aside0.mk hst
      clear hN hst hlen
      go_enter Tryd.func19, Tryd.ntmps19
      go_wp2_with (first
        | (go_at_call 42; refine (HST.out _).mono ?_; rintro e w1 ⟨rfl, ⟨nd, rfl⟩⟩)
        | ((with_reducible refine gate_dst (N := 21) rfl ?_); refine col_lit (Kd.int .i64) (w0 := w) w.heap.size 2 ?hg (N := 21) ?hd (xs := ([] : List Int)) (inner := []) 0 (fun _ => 0) ?hr ?hp (by repeat (first | exact HB.out | apply pw_below_drewN)) (Nat.le_refl _) (by simp) ?_; (case hd => rfl); (case hg => rfl); (case hr => first | (go_simp; done) | (go_simp; rfl)); (case hp => exact (Reps.none _ _)); intro v6 w3 col2 hm1 ho1 hb1; have HO6 := Aside0.mk ho1; have mB := Aside0.mk hb1; clear hm1 ho1 hb1 HB; have HB := mB; clear mB))
      go_loopw [5, 24] (fun v6 v7 wr => ∃ (i : Nat) (col : Nat → Nat), v7 = .int .i64 i ∧ i ≤ l0.length ∧ Aside0 ((l0.take i).all okCoin = true) ∧ Aside0 (Kd.R (Kd.int .i64) 2 wr w.heap.size (fun k => col k = 0) v6 ((List.range i).map fun i : Nat => (i : Int))) ∧ Aside0 (Below w.heap.size w wr)) (fun _ i _ => l0.length - (intOf i).toNat)
      case atStart => exact ⟨0, col2, rfl, by omega, ⟨rfl⟩, HO6, HB⟩
      case round =>
        clear HST HO6 HB
        obtain ⟨i, col, rfl, hi, HA, HO6, HB⟩ := hrel
        by_cases hlt : i < l0.length
        · have hlr : (((List.range i).map fun i : Nat => (i : Int)).length + 1) * 8 ≤ 140737488355328 := by simp; omega
          obtain ⟨ad, ea, hxc⟩ := Kd.at_string (Kd.C_below HR0.out HB.out) (i : Int) (by omega) (by omega)
          cases ea
          have hgi := rdOf_at ByteArray.empty l0 i hlt
          have hsz := HSZ.out _ (List.getElem_mem hlt)
          have HNO := Aside0.mk (areCoins_not hlt)
          have HYES := Aside0.mk (fun h : okCoin l0[i] = true => show (l0.take (i + 1)).all okCoin = true from by rw [take_at _ _ hlt, List.all_append, HA.out, List.all_cons, h]; rfl)
          obtain ⟨c, hc⟩ : ∃ c, c = l0[i] := ⟨_, rfl⟩
          rw [hgi] at hxc
          rw [← hc] at hxc hsz HNO HYES
          simp only [Int.toNat_natCast] at hxc
          clear hgi hc HA
          by_cases h40 : 40 < c.size
          · have h40b : decide (40 < (c.size : Int)) = true := decide_eq_true (by omega)
            have e := H0.out
            unfold splitOf at e
            rw [HNO.out (by unfold okCoin; rw [decide_eq_false (show ¬ c.size ≤ 40 by omega), Bool.and_false]), if_neg (by decide)] at e
            simp only [Prod.mk.injEq] at e
            obtain ⟨rfl, rfl, rfl⟩ := e
            clear h40
            go_wp2
            go_ret3
            exact ⟨_, _, rfl, Kd.R_nil _ _ _ _ _, Kd.R_nil _ _ _ _ _, HB.out⟩
          · have h40b : decide (40 < (c.size : Int)) = false := decide_eq_false (by omega)
            have hbt := fun (b : Bool) (hb : bitsB c = b) W => impl_areBits.calls c b W (by unfold impl_areBits.f; rw [if_pos (by omega), hb])
            by_cases hb : bitsB c = true
            · have HBT := Aside0.mk (hbt true hb)
              have HA := Aside0.mk (HYES.out (by unfold okCoin; rw [hb, decide_eq_true (show c.size ≤ 40 by omega)]; rfl))
              clear hbt hb h40 HNO HYES
              go_wp2_with (first
                | (go_at_call 43; refine (HBT.out _).mono ?_; rintro e w1 ⟨rfl, hb1⟩; have n0 := Aside0.mk (Kd.R_below HO6.out hb1); have n1 := Aside0.mk (below_step HB.out hb1); clear HO6 HB hb1; have HO6 := n0; have HB := n1; clear n0 n1)
                | ((with_reducible refine gate_builtin (b := .append) (xs := #[.tmp 37, .tmp 39]) rfl ?_); at_builtin; refine col_append (Kd.int .i64) (w0 := w) w.heap.size rfl (.tmp 37) (.tmp 39) 37 2 (.int .i64 0) 8 rfl Tryd.underlying37 info2 rfl (by decide) (by omega) _ ((List.range i).map fun i : Nat => (i : Int)) (i : Int) [.int .i64 (i : Int)] 0 col rfl rfl rfl HO6.out HB.out HB.out.size hlr ?_; intro v1 w1 col' hm1 ho1 hb1; have n0 := Aside0.mk ho1; have n1 := Aside0.mk hb1; clear hm1 ho1 hb1 HO6 HB))
              go_roundw
              case measure => simp [intOf]; omega
              case rel => exact ⟨i + 1, col', by go_num, by omega, HA, by rw [List.range_succ, List.map_append]; exact n0, n1⟩
            · have hb' : bitsB c = false := by simpa using hb
              have HBT := Aside0.mk (hbt false hb')
              have e := H0.out
              unfold splitOf at e
              rw [HNO.out (by unfold okCoin; rw [hb']; rfl), if_neg (by decide)] at e
              simp only [Prod.mk.injEq] at e
              obtain ⟨rfl, rfl, rfl⟩ := e
              clear hbt hb hb' h40 HNO HYES
              go_wp2_with (go_at_call 43; refine (HBT.out _).mono ?_; rintro e w1 ⟨rfl, hb1⟩; have n1 := Aside0.mk (below_step HB.out hb1); clear HO6 HB hb1; have HB := n1; clear n1)
              go_ret3
              exact ⟨_, _, rfl, Kd.R_nil _ _ _ _ _, Kd.R_nil _ _ _ _ _, HB.out⟩
        · obtain rfl : i = l0.length := by omega
          have hco : areCoins l0 = true := areCoins_of hN0 hN1 (by have := HA.out; rwa [List.take_of_length_le (Nat.le_refl _)] at this)
          have HZ := Aside0.mk (areCoins_size hco)
          have H := Aside0.mk (show fin (srun l0 302 (List.replicate l0.length 0) [(List.range l0.length).map fun i : Nat => (i : Int)] [] []) = (r1, r2, r3) from by
            have := H0.out
            unfold splitOf at this
            rwa [if_pos hco] at this)
          clear hlt hi hco HA H0 HSZ
          obtain ⟨A6, c6, e6⟩ := Kd.R_slice HO6.out
          rw [show ((List.range l0.length).map fun i : Nat => (i : Int)).length = l0.length by simp] at e6
          subst e6
          go_wp2_with (first
            | ((with_reducible refine gate_dst (N := 44) rfl ?_); refine col_make (Kd.int .i64) (w0 := w) w.heap.size 3 rfl (N := 44) rfl 66 _ _ rfl (l0.length : Int) rfl rfl Tryd.underlying66 (.int .i64 0) 8 (by kernel_rfl) rfl (by decide) (by omega) (0 : Int) 3 col rfl (by omega) (by omega) HB.out HB.out.size ?_; intro v5 w2 col3 hm1 ho1 hb1; have HO5 := Aside0.mk ho1; have mB := Aside0.mk hb1; have m6 := Aside0.mk (hm1 _ _ _ _ 0 _ _ (by decide) HO6.out); clear hm1 ho1 hb1 HB HO6; have HB := mB; have HO6 := m6; clear mB m6)
            | ((with_reducible refine gate_dst (N := 45) rfl ?_); refine col_lit (Kd.int .i64) (w0 := w) w.heap.size 2 ?hg (N := 45) ?hd (xs := ([] : List Int)) (inner := []) 1 col3 ?hr ?hp HB.out HB.out.size (by simp) ?_; (case hd => rfl); (case hg => rfl); (case hr => first | (go_simp; done) | (go_simp; rfl)); (case hp => exact (Reps.none _ _)); intro v9 w5 col4 hm1 ho1 hb1; have HO9 := Aside0.mk ho1; have mB := Aside0.mk hb1; have m5 := Aside0.mk (hm1 _ _ _ _ 3 _ _ (by decide) HO5.out); have m6 := Aside0.mk (hm1 _ _ _ _ 0 _ _ (by decide) HO6.out); clear hm1 ho1 hb1 HB HO5 HO6; have HB := mB; have HO5 := m5; have HO6 := m6; clear mB m5 m6)
            | ((with_reducible refine gate_dst (N := 46) rfl ?_); refine col_lit (Kd.int .i64) (w0 := w) w.heap.size 2 ?hg (N := 46) ?hd (xs := ([] : List Int)) (inner := []) 2 col4 ?hr ?hp HB.out HB.out.size (by simp) ?_; (case hd => rfl); (case hg => rfl); (case hr => first | (go_simp; done) | (go_simp; rfl)); (case hp => exact (Reps.none _ _)); intro v10 w6 col5 hm1 ho1 hb1; have HO10 := Aside0.mk ho1; have mB := Aside0.mk hb1; have m5 := Aside0.mk (hm1 _ _ _ _ 3 _ _ (by decide) HO5.out); have m6 := Aside0.mk (Kd.R_bound (hm1 _ _ _ _ 0 _ _ (by decide) HO6.out)); have m9 := Aside0.mk (hm1 _ _ _ _ 1 _ _ (by decide) HO9.out); clear hm1 ho1 hb1 HB HO5 HO6 HO9; have HB := mB; have HO5 := m5; have HO6 := m6; have HO9 := m9; clear mB m5 m6 m9)
            | ((with_reducible refine gate_dst (N := 48) rfl ?_); refine col_lit (Kd.slice 2 (Kd.int .i64)) (w0 := w) w.heap.size 37 ?hg (N := 48) ?hd (xs := [((List.range l0.length).map fun i : Nat => (i : Int))]) (inner := [.slice A6 l0.length c6]) 0 col5 ?hr ?hp HB.out HB.out.size (by simp) ?_; (case hd => rfl); (case hg => rfl); (case hr => first | (go_simp; done) | (go_simp; rfl)); (case hp => exact Reps.snoc (Reps.none _ _) (Kd.M_row (Kd.R_mono HO6.out (fun _ hk => ⟨hk.1, hk.2.2.1⟩))) rfl); intro v8 w4 col6 hm1 ho1 hb1; have HO8 := Aside0.mk ho1; have mB := Aside0.mk hb1; have m5 := Aside0.mk (hm1 _ _ _ _ 3 _ _ (by decide) HO5.out); have m9 := Aside0.mk (hm1 _ _ _ _ 1 _ _ (by decide) HO9.out); have m10 := Aside0.mk (hm1 _ _ _ _ 2 _ _ (by decide) HO10.out); clear hm1 ho1 hb1 HB HO5 HO6 HO9 HO10; have HB := mB; have HO5 := m5; have HO9 := m9; have HO10 := m10; clear mB m5 m9 m10))
          go_loopg [9, 10, 11] 302 (fun kq v9 v10 v8 w' => ∃ (L : List (List Int)) (tk sl od : List Int) (col : Nat → Nat), Aside0 (fin (srun l0 kq tk L.reverse sl od) = (r1, r2, r3)) ∧ Aside0 (okTk l0 tk ∧ ∀ s ∈ L, okSet l0 s) ∧ Aside0 (L.length ≤ sl.length + 1 ∧ od.length ≤ sl.length ∧ sl.length ≤ 300 ∧ sl.length + kq = 302) ∧ Aside0 (Kd.R (Kd.slice 2 (Kd.int .i64)) 37 w' w.heap.size (fun k => col k = 0) v8 L) ∧ Aside0 (Kd.R (Kd.int .i64) 2 w' w.heap.size (fun k => col k = 1) v9 sl) ∧ Aside0 (Kd.R (Kd.int .i64) 2 w' w.heap.size (fun k => col k = 2) v10 od) ∧ Aside0 (Kd.R (Kd.int .i64) 3 w' w.heap.size (fun k => col k = 3) v5 tk) ∧ Aside0 (Below w.heap.size w w'))
          case atStart => exact ⟨_, _, _, _, col6, H, ⟨⟨by simpa using okTk_zero l0, fun s hs => by rw [List.mem_singleton.1 hs]; exact okSet_all l0 hN1⟩⟩, ⟨⟨by simp, by simp, by simp, by simp⟩⟩, HO8, HO9, HO10, HO5, HB⟩
          case round =>
            clear H HO8 HO9 HO10 HO5 HB
            obtain ⟨L, tk, sl, od, col, H, HI, HL, HO8, HO9, HO10, HO5, HB⟩ := hrel
            cases gk with
            | zero => exact absurd HL.out (by omega)
            | succ kq =>
              obtain ⟨A9, c9, rfl⟩ := Kd.R_slice HO9.out
              obtain ⟨A10, c10, rfl⟩ := Kd.R_slice HO10.out
              rcases nil_or_snoc L with rfl | ⟨L, s, rfl⟩
              · obtain ⟨A8, c8, rfl⟩ := Kd.R_slice HO8.out
                have H1 := H.out
                simp only [List.reverse_nil, srun, fin, Prod.mk.injEq] at H1
                obtain ⟨rfl, rfl, rfl⟩ := H1
                clear H
                go_wp2
                go_ret3
                exact ⟨_, _, rfl, col_apart (by decide) HO9.out HO10.out, col_apart (by decide) HO10.out HO9.out, HB.out⟩
              · have H1 := H.out
                rw [List.reverse_append, List.reverse_singleton, List.singleton_append] at H1
                simp only [srun] at H1
                obtain ⟨n, hn⟩ : ∃ n, n = L.length + 1 := ⟨_, rfl⟩
                obtain ⟨g8, c8, e8, _, _, _⟩ := Kd.R_form HO8.out (by simp)
                rw [show (L ++ [s]).length = n by simp [hn]] at e8
                subst e8
                obtain ⟨m, hm⟩ : ∃ m, m = L.length := ⟨_, rfl⟩
                have HT8 := Aside0.mk (show Kd.R (Kd.slice 2 (Kd.int .i64)) 37 wr w.heap.size (fun k => col k = 0) (.slice (some ⟨g8, 0, none⟩) m c8) L from by
                  have := Kd.R_take HO8.out (m := m) (by simp; omega)
                  rwa [List.take_append_of_le_length (by omega), List.take_of_length_le (by omega)] at this)
                have hcl := (Kd.R_reads' HO8.out).2.1
                obtain ⟨cs, _, hM, hcc⟩ := Kd.R_getA HO8.out ([] : List Int) (m : Int) (by omega) (by omega)
                rw [show (L ++ [s]).getD (m : Int).toNat [] = s by
                  rw [List.getD_eq_getElem?_getD, List.getElem?_append_right (by omega), show (m : Int).toNat - L.length = 0 by omega]; rfl] at hM
                obtain ⟨vs, rfl, hRs⟩ := hM
                have HOs := Aside0.mk (Kd.R_mono hRs (fun k hk => hk.1))
                obtain ⟨As, ks, rfl⟩ := Kd.R_slice hRs
                have hx : wr.cell? ⟨g8, m, none⟩ = some (.slice As s.length ks) := by
                  have := hcc 0 _ rfl
                  rwa [add_at, Nat.zero_add, show (m : Int).toNat * (Kd.slice 2 (Kd.int .i64)).sz + 0 = m from by show _ * 1 + 0 = _; omega] at this
                have HS := Aside0.mk (HI.out.2 s (by simp))
                have HI' := Aside0.mk (show okTk l0 tk ∧ ∀ s ∈ L, okSet l0 s from ⟨HI.out.1, fun x hx => HI.out.2 x (by simp [hx])⟩)
                have HL' := Aside0.mk (show n ≤ sl.length + 1 ∧ od.length ≤ sl.length ∧ sl.length ≤ 300 ∧ sl.length + (kq + 1) = 302 from by have := HL.out; simp at this; omega)
                have hw1 : wrap64 ((n : Int) - 1) = (m : Int) := (wrap64_id (x := (n : Int) - 1) (by have := HL'.out; omega) (by have := HL'.out; omega)).trans (by omega)
                have hn1 : m < n := by omega
                have hn3 : m ≤ c8 := by omega
                have hn0 : 0 < n := by omega
                have HN := Aside0.mk hn
                have HM := Aside0.mk hm
                clear hRs hcc HI HL H HO8 hn hm hcl
                by_cases h3 : sl.length = 300
                · rw [if_pos h3] at H1
                  simp only [fin, Prod.mk.injEq] at H1
                  obtain ⟨rfl, rfl, rfl⟩ := H1
                  have h3b : ((sl.length : Int) == 300) = true := by simp; omega
                  clear h3
                  go_wp2
                  go_ret3
                  exact ⟨_, _, rfl, Kd.R_nil _ _ _ _ _, Kd.R_nil _ _ _ _ _, HB.out⟩
                · rw [if_neg h3] at H1
                  have h3b : ((sl.length : Int) == 300) = false := by simp; omega
                  have hl9 : (sl.length + 1) * 8 ≤ 140737488355328 := by have := HL'.out; omega
                  by_cases hs1 : s.length = 1
                  · rw [if_pos (by omega), if_pos hs1] at H1
                    obtain ⟨gs, cs, es, _, _, _⟩ := Kd.R_form HOs.out (by omega)
                    injection es with es _ ec
                    subst es ec
                    have H := Aside0.mk H1
                    have hsb : ((s.length : Int) == 1) = true := by simp; omega
                    have hsc : decide ((s.length : Int) < 2) = true := decide_eq_true (by omega)
                    have hsd : 0 < s.length := by omega
                    have hl10 : (od.length + 1) * 8 ≤ 140737488355328 := by have := HL'.out; omega
                    clear H1 hs1
                    go_wp2_with (first
                      | ((with_reducible refine gate_builtin (b := .append) (xs := #[.tmp 66, .tmp 69]) rfl ?_); at_builtin; refine col_append (Kd.int .i64) (w0 := w) w.heap.size rfl (.tmp 66) (.tmp 69) 37 2 (.int .i64 0) 8 rfl Tryd.underlying37 info2 rfl (by decide) (by omega) (.slice A9 sl.length c9) (sl) ((s.length : Int)) [.int .i64 ((s.length : Int))] 1 col rfl rfl rfl HO9.out HB.out HB.out.size (by first | assumption | omega) ?_; intro v54 w1 col1 hm1 ho1 hb1; have m0 := Aside0.mk ho1; have mB := Aside0.mk hb1; have m1 := Aside0.mk (hm1 _ _ _ _ 0 _ _ (by decide) HT8.out); have m2 := Aside0.mk (hm1 _ _ _ _ 0 _ _ (by decide) HOs.out); have m3 := Aside0.mk (hm1 _ _ _ _ 2 _ _ (by decide) HO10.out); have m4 := Aside0.mk (hm1 _ _ _ _ 3 _ _ (by decide) HO5.out); clear hm1 ho1 hb1 HB HO9 HT8 HOs HO10 HO5; have HO9 := m0; have HB := mB; have HT8 := m1; have HOs := m2; have HO10 := m3; have HO5 := m4; clear m0 mB m1 m2 m3 m4; have hxs := (Kd.R_celln 0 HOs.out 0 (by omega) (by omega)).1; simp only [Int.toNat_zero] at hxs)
                      | ((with_reducible refine gate_builtin (b := .append) (xs := #[.tmp 74, .tmp 78]) rfl ?_); at_builtin; refine col_append (Kd.int .i64) (w0 := w) w.heap.size rfl (.tmp 74) (.tmp 78) 37 2 (.int .i64 0) 8 rfl Tryd.underlying37 info2 rfl (by decide) (by omega) (.slice A10 od.length c10) (od) (rdOf 0 s 0) [.int .i64 (rdOf 0 s 0)] 2 col1 rfl rfl rfl HO10.out HB.out HB.out.size (by first | assumption | omega) ?_; intro v62 w1 col2 hm1 ho1 hb1; have m0 := Aside0.mk ho1; have mB := Aside0.mk hb1; have m1 := Aside0.mk (hm1 _ _ _ _ 0 _ _ (by decide) HT8.out); have m2 := Aside0.mk (hm1 _ _ _ _ 1 _ _ (by decide) HO9.out); have m3 := Aside0.mk (hm1 _ _ _ _ 3 _ _ (by decide) HO5.out); clear hm1 ho1 hb1 HB HO10 HT8 HO9 HO5; have HO10 := m0; have HB := mB; have HT8 := m1; have HO9 := m2; have HO5 := m3; clear m0 mB m1 m2 m3))
                    go_roundg kq
                    case measure => omega
                    case rel => exact ⟨L, tk, sl ++ [(s.length : Int)], od ++ [rd s 0], col2, H, HI', ⟨by have := HL'.out; have := HM.out; have := HN.out; simp; omega⟩, HT8, HO9, HO10, HO5, HB⟩
                  · by_cases hs2 : s.length < 2
                    · rw [if_pos hs2, if_neg hs1] at H1
                      have H := Aside0.mk H1
                      have hsb : ((s.length : Int) == 1) = false := by simp; omega
                      have hsc : decide ((s.length : Int) < 2) = true := decide_eq_true (by omega)
                      clear H1 hs1 hs2
                      go_wp2_with (first
                        | ((with_reducible refine gate_builtin (b := .append) (xs := #[.tmp 66, .tmp 69]) rfl ?_); at_builtin; refine col_append (Kd.int .i64) (w0 := w) w.heap.size rfl (.tmp 66) (.tmp 69) 37 2 (.int .i64 0) 8 rfl Tryd.underlying37 info2 rfl (by decide) (by omega) (.slice A9 sl.length c9) (sl) ((s.length : Int)) [.int .i64 ((s.length : Int))] 1 col rfl rfl rfl HO9.out HB.out HB.out.size (by first | assumption | omega) ?_; intro v54 w1 col1 hm1 ho1 hb1; have m0 := Aside0.mk ho1; have mB := Aside0.mk hb1; have m1 := Aside0.mk (hm1 _ _ _ _ 0 _ _ (by decide) HT8.out); have m2 := Aside0.mk (hm1 _ _ _ _ 0 _ _ (by decide) HOs.out); have m3 := Aside0.mk (hm1 _ _ _ _ 2 _ _ (by decide) HO10.out); have m4 := Aside0.mk (hm1 _ _ _ _ 3 _ _ (by decide) HO5.out); clear hm1 ho1 hb1 HB HO9 HT8 HOs HO10 HO5; have HO9 := m0; have HB := mB; have HT8 := m1; have HOs := m2; have HO10 := m3; have HO5 := m4; clear m0 mB m1 m2 m3 m4))
                      go_roundg kq
                      case measure => omega
                      case rel => exact ⟨L, tk, sl ++ [(s.length : Int)], od, col1, H, HI', ⟨by have := HL'.out; have := HM.out; have := HN.out; simp; omega⟩, HT8, HO9, HO10, HO5, HB⟩
                    · rw [if_neg hs2] at H1
                      obtain ⟨gs, cs, es, _, _, _⟩ := Kd.R_form HOs.out (by omega)
                      injection es with es _ ec
                      subst es ec
                      obtain ⟨RS, hRS⟩ : ∃ RS, RS = spin l0 s tk [] [] := ⟨_, rfl⟩
                      rw [← hRS] at H1
                      have HRS := Aside0.mk hRS
                      have H := Aside0.mk H1
                      have hsb : ((s.length : Int) == 1) = false := by simp; omega
                      have hsc : decide ((s.length : Int) < 2) = false := decide_eq_false (by omega)
                      clear H1 hs1 hs2 hRS
                      go_wp2_with (first
                        | ((with_reducible refine gate_builtin (b := .append) (xs := #[.tmp 66, .tmp 69]) rfl ?_); at_builtin; refine col_append (Kd.int .i64) (w0 := w) w.heap.size rfl (.tmp 66) (.tmp 69) 37 2 (.int .i64 0) 8 rfl Tryd.underlying37 info2 rfl (by decide) (by omega) (.slice A9 sl.length c9) (sl) ((s.length : Int)) [.int .i64 ((s.length : Int))] 1 col rfl rfl rfl HO9.out HB.out HB.out.size (by first | assumption | omega) ?_; intro v54 w1 col1 hm1 ho1 hb1; have m0 := Aside0.mk ho1; have mB := Aside0.mk hb1; have m1 := Aside0.mk (hm1 _ _ _ _ 0 _ _ (by decide) (by (with_reducible repeat (first | apply Kd.R_alloc | apply Kd.R_drewN | apply Kd.R_drew)); exact HT8.out)); have m2 := Aside0.mk (hm1 _ _ _ _ 0 _ _ (by decide) (by (with_reducible repeat (first | apply Kd.R_alloc | apply Kd.R_drewN | apply Kd.R_drew)); exact HOs.out)); have m3 := Aside0.mk (hm1 _ _ _ _ 2 _ _ (by decide) (by (with_reducible repeat (first | apply Kd.R_alloc | apply Kd.R_drewN | apply Kd.R_drew)); exact HO10.out)); have m4 := Aside0.mk (hm1 _ _ _ _ 3 _ _ (by decide) (by (with_reducible repeat (first | apply Kd.R_alloc | apply Kd.R_drewN | apply Kd.R_drew)); exact HO5.out)); clear hm1 ho1 hb1 HB HO9 HT8 HOs HO10 HO5; have HO9 := m0; have HB := mB; have HT8 := m1; have HOs := m2; have HO10 := m3; have HO5 := m4; clear m0 mB m1 m2 m3 m4)
                        | ((with_reducible refine gate_dst (N := 83) rfl ?_); refine col_lit (Kd.int .i64) (w0 := w) w.heap.size 2 ?hg (N := 83) ?hd (xs := ([] : List Int)) (inner := []) 4 col1 ?hr ?hp HB.out HB.out.size (by simp) ?_; (case hd => rfl); (case hg => rfl); (case hr => first | (go_simp; done) | (go_simp; rfl)); (case hp => exact (Reps.none _ _)); intro v71 w1 col2 hm1 ho1 hb1; have HO12 := Aside0.mk ho1; have mB := Aside0.mk hb1; have m1 := Aside0.mk (hm1 _ _ _ _ 0 _ _ (by decide) HT8.out); have m2 := Aside0.mk (hm1 _ _ _ _ 0 _ _ (by decide) HOs.out); have m3 := Aside0.mk (hm1 _ _ _ _ 2 _ _ (by decide) HO10.out); have m4 := Aside0.mk (hm1 _ _ _ _ 3 _ _ (by decide) HO5.out); have m5 := Aside0.mk (hm1 _ _ _ _ 1 _ _ (by decide) HO9.out); clear hm1 ho1 hb1 HB HT8 HOs HO10 HO5 HO9; have HB := mB; have HT8 := m1; have HOs := m2; have HO10 := m3; have HO5 := m4; have HO9 := m5; clear mB m1 m2 m3 m4 m5)
                        | ((with_reducible refine gate_dst (N := 84) rfl ?_); refine col_lit (Kd.int .i64) (w0 := w) w.heap.size 2 ?hg (N := 84) ?hd (xs := ([] : List Int)) (inner := []) 5 col2 ?hr ?hp HB.out HB.out.size (by simp) ?_; (case hd => rfl); (case hg => rfl); (case hr => first | (go_simp; done) | (go_simp; rfl)); (case hp => exact (Reps.none _ _)); intro v72 w1 col3 hm1 ho1 hb1; have HO13 := Aside0.mk ho1; have mB := Aside0.mk hb1; have m1 := Aside0.mk (hm1 _ _ _ _ 0 _ _ (by decide) HT8.out); have m2 := Aside0.mk (hm1 _ _ _ _ 0 _ _ (by decide) HOs.out); have m3 := Aside0.mk (hm1 _ _ _ _ 2 _ _ (by decide) HO10.out); have m4 := Aside0.mk (hm1 _ _ _ _ 3 _ _ (by decide) HO5.out); have m5 := Aside0.mk (hm1 _ _ _ _ 1 _ _ (by decide) HO9.out); have m6 := Aside0.mk (hm1 _ _ _ _ 4 _ _ (by decide) HO12.out); clear hm1 ho1 hb1 HB HT8 HOs HO10 HO5 HO9 HO12; have HB := mB; have HT8 := m1; have HOs := m2; have HO10 := m3; have HO5 := m4; have HO9 := m5; have HO12 := m6; clear mB m1 m2 m3 m4 m5 m6))
                      clear hx
                      go_loopw [13, 14, 87] (fun v12 v13 v14 wr => ∃ (i : Nat) (o z tk : List Int) (col : Nat → Nat), v14 = .int .i64 i ∧ i ≤ s.length ∧ Aside0 (spin l0 (s.drop i) tk o z = RS) ∧ Aside0 (okTk l0 tk ∧ o.length ≤ i ∧ z.length ≤ i ∧ (∀ x ∈ o, 0 ≤ x ∧ x < (l0.length : Int)) ∧ ∀ x ∈ z, 0 ≤ x ∧ x < (l0.length : Int)) ∧ Aside0 (Kd.R (Kd.slice 2 (Kd.int .i64)) 37 wr w.heap.size (fun k => col k = 0) (.slice (some ⟨g8, 0, none⟩) m c8) L) ∧ Aside0 (Kd.R (Kd.int .i64) 2 wr w.heap.size (fun k => col k = 0) (.slice (some ⟨gs, 0, none⟩) s.length ks) s) ∧ Aside0 (Kd.R (Kd.int .i64) 2 wr w.heap.size (fun k => col k = 1) v54 (sl ++ [(s.length : Int)])) ∧ Aside0 (Kd.R (Kd.int .i64) 2 wr w.heap.size (fun k => col k = 2) (.slice A10 od.length c10) od) ∧ Aside0 (Kd.R (Kd.int .i64) 3 wr w.heap.size (fun k => col k = 3) v5 tk) ∧ Aside0 (Kd.R (Kd.int .i64) 2 wr w.heap.size (fun k => col k = 4) v12 o) ∧ Aside0 (Kd.R (Kd.int .i64) 2 wr w.heap.size (fun k => col k = 5) v13 z) ∧ Aside0 (Below w.heap.size w wr)) (fun _ _ i _ => s.length - (intOf i).toNat)
                      case atStart => exact ⟨0, [], [], tk, col3, rfl, by omega, ⟨HRS.out.symm⟩, ⟨⟨HI'.out.1, by simp, by simp, by simp, by simp⟩⟩, HT8, HOs, HO9, HO10, HO5, HO12, HO13, HB⟩
                      case round =>
                        clear HRS HT8 HOs HO9 HO10 HO5 HO12 HO13 HB
                        obtain ⟨i, o, z, tk, col, rfl, hi, HRS, HK, HT8, HOs, HO9, HO10, HO5, HO12, HO13, HB⟩ := hrel
                        by_cases hlt : i < s.length
                        · obtain ⟨x, hxd⟩ : ∃ x, x = rd s (i : Int) := ⟨_, rfl⟩
                          have hxm : 0 ≤ x ∧ x < (l0.length : Int) := by rw [hxd]; exact HS.out.2 _ (rd_mem s i hlt)
                          have hx0 := hxm.1
                          have hx1 := hxm.2
                          have hdr : s.drop i = x :: s.drop (i + 1) := by rw [hxd]; exact rd_drop s i hlt
                          have hxs := (Kd.R_celln 0 HOs.out (i : Int) (by omega) (by omega)).1
                          rw [show rdOf 0 s (i : Int) = x from hxd.symm] at hxs
                          simp only [Int.toNat_natCast] at hxs
                          have htl : tk.length = l0.length := HK.out.1.1
                          have hx2 : x < (tk.length : Int) := by omega
                          obtain ⟨g5, c5, e5, _, _, _⟩ := Kd.R_form HO5.out (by omega)
                          subst e5
                          obtain ⟨u, hu⟩ : ∃ u, rd tk x = u := ⟨_, rfl⟩
                          obtain ⟨c, hcd⟩ : ∃ c, rdOf ByteArray.empty l0 x = c := ⟨_, rfl⟩
                          have hxt := (Kd.R_celln 0 HO5.out x hx0 hx2).1
                          rw [show rdOf 0 tk x = u from hu] at hxt
                          obtain ⟨ad, ea, hxc⟩ := Kd.at_string (Kd.C_below HR0.out HB.out) x hx0 hx1
                          cases ea
                          rw [hcd] at hxc
                          have huc := HK.out.1.2 x hx0 hx1
                          rw [hu, hcd] at huc
                          have hu0 := huc.1
                          have hu1 := huc.2
                          have hcz := HZ.out x hx0 hx1
                          rw [hcd] at hcz
                          have hsl := HS.out.1
                          clear hxm hxd huc htl
                          by_cases he : u = (c.size : Int)
                          · have heb : (u == (c.size : Int)) = true := by simp [he]
                            have hspin := HRS.out
                            rw [hdr] at hspin
                            simp only [spin] at hspin
                            rw [if_pos (by rw [hu, hcd]; exact he)] at hspin
                            subst hspin
                            have H1 := H.out
                            simp only [fin, Prod.mk.injEq] at H1
                            obtain ⟨rfl, rfl, rfl⟩ := H1
                            clear H he hdr hu hcd HRS
                            go_wp2
                            go_quiet (fail)
                            go_wp2
                            go_ret3
                            exact ⟨_, _, rfl, Kd.R_nil _ _ _ _ _, Kd.R_nil _ _ _ _ _, (by repeat (first | exact HB.out | apply below_alloc | apply pw_below_drewN))⟩
                          · have heb : (u == (c.size : Int)) = false := by simpa using he
                            have hu2 : u < (c.size : Int) := by omega
                            have HE := Aside0.mk he
                            have hbt := bt_at c u
                            by_cases hb : bt c u = 49
                            · have hbb : (bt c u == 49) = true := by simp [hb]
                              have hspin := HRS.out
                              rw [hdr] at hspin
                              simp only [spin] at hspin
                              rw [if_neg (by rw [hu, hcd]; exact he), if_pos (by rw [hu, hcd]; exact hb)] at hspin
                              have HRS2 := Aside0.mk hspin
                              have hl12 : (o.length + 1) * 8 ≤ 140737488355328 := by have := HK.out; have := HS.out.1; omega
                              clear hspin HRS he hb
                              go_wp2
                              go_quiet (fail)
                              go_wp2
                              go_quiet (fail)
                              go_wp2_with ((with_reducible refine gate_builtin (b := .append) (xs := #[.tmp 111, .tmp 113]) rfl ?_); at_builtin; refine col_append (Kd.int .i64) (w0 := w) w.heap.size rfl (.tmp 111) (.tmp 113) 37 2 (.int .i64 0) 8 rfl Tryd.underlying37 info2 rfl (by decide) (by omega) (u13) (o) (x) [.int .i64 (x)] 4 col rfl rfl rfl (by (with_reducible repeat (first | apply Kd.R_alloc | apply Kd.R_drewN | apply Kd.R_drew)); exact HO12.out) (by repeat (first | exact HB.out | apply below_alloc | apply pw_below_drewN)) (below_size (by repeat (first | exact HB.out | apply below_alloc | apply pw_below_drewN))) (by first | assumption | omega) ?_; intro vn w1 col' hm1 ho1 hb1; have m0 := Aside0.mk ho1; have mB := Aside0.mk hb1; have m1 := Aside0.mk (hm1 _ _ _ _ 0 _ _ (by decide) (by (with_reducible repeat (first | apply Kd.R_alloc | apply Kd.R_drewN | apply Kd.R_drew)); exact HT8.out)); have m2 := Aside0.mk (hm1 _ _ _ _ 0 _ _ (by decide) (by (with_reducible repeat (first | apply Kd.R_alloc | apply Kd.R_drewN | apply Kd.R_drew)); exact HOs.out)); have m3 := Aside0.mk (hm1 _ _ _ _ 1 _ _ (by decide) (by (with_reducible repeat (first | apply Kd.R_alloc | apply Kd.R_drewN | apply Kd.R_drew)); exact HO9.out)); have m4 := Aside0.mk (hm1 _ _ _ _ 2 _ _ (by decide) (by (with_reducible repeat (first | apply Kd.R_alloc | apply Kd.R_drewN | apply Kd.R_drew)); exact HO10.out)); have m5 := Aside0.mk (hm1 _ _ _ _ 3 _ _ (by decide) (by (with_reducible repeat (first | apply Kd.R_alloc | apply Kd.R_drewN | apply Kd.R_drew)); exact HO5.out)); have m6 := Aside0.mk (hm1 _ _ _ _ 5 _ _ (by decide) (by (with_reducible repeat (first | apply Kd.R_alloc | apply Kd.R_drewN | apply Kd.R_drew)); exact HO13.out)); clear hm1 ho1 hb1 HB HO12 HT8 HOs HO9 HO10 HO5 HO13; have HO12 := m0; have HB := mB; have HT8 := m1; have HOs := m2; have HO9 := m3; have HO10 := m4; have HO5 := m5; have HO13 := m6; clear m0 mB m1 m2 m3 m4 m5 m6; obtain ⟨hxu, hfu⟩ := Kd.R_celln 0 HO5.out x hx0 hx2; have hputg := Kd.R_putg HO5.out x (rd tk x + 1); have HX := Aside0.mk hputg.1; have HMV := Aside0.mk (show Moved 3 col' col' w1 (w1.setCell ⟨g5, x.toNat, none⟩ (.int .i64 (u + 1))) from by rw [← hu]; exact moved_same (HO5.out.1 g5 rfl) hputg.2); clear hputg; rw [show rdOf 0 tk x = u from hu] at hxu; have GB5 := Aside0.mk (Kd.R_typed HO5.out g5 rfl).choose_spec)
                              go_roundw
                              case measure => simp [intOf]; omega
                              case rel => exact ⟨i + 1, o ++ [x], z, tk.set x.toNat (rd tk x + 1), col', by go_num, by omega, HRS2, ⟨⟨okTk_set HK.out.1 hx0 hx1 (by rw [hu, hcd]; exact HE.out), by have := HK.out; simp; omega, by have := HK.out; simp; omega, fun y hy => (List.mem_append.1 hy).elim (HK.out.2.2.2.1 y) (fun h => by rw [List.mem_singleton.1 h]; exact ⟨hx0, hx1⟩), HK.out.2.2.2.2⟩⟩, ⟨HMV.out _ _ _ _ 0 _ _ (by decide) HT8.out⟩, ⟨HMV.out _ _ _ _ 0 _ _ (by decide) HOs.out⟩, ⟨HMV.out _ _ _ _ 1 _ _ (by decide) HO9.out⟩, ⟨HMV.out _ _ _ _ 2 _ _ (by decide) HO10.out⟩, ⟨by rw [← hu]; exact HX.out⟩, ⟨HMV.out _ _ _ _ 4 _ _ (by decide) HO12.out⟩, ⟨HMV.out _ _ _ _ 5 _ _ (by decide) HO13.out⟩, ⟨below_set HB.out (Kd.R_base HO5.out g5 rfl)⟩⟩
                            · have hbb : (bt c u == 49) = false := by simpa using hb
                              have hspin := HRS.out
                              rw [hdr] at hspin
                              simp only [spin] at hspin
                              rw [if_neg (by rw [hu, hcd]; exact he), if_neg (by rw [hu, hcd]; exact hb)] at hspin
                              have HRS2 := Aside0.mk hspin
                              have hl12 : (z.length + 1) * 8 ≤ 140737488355328 := by have := HK.out; have := HS.out.1; omega
                              clear hspin HRS he hb
                              go_wp2
                              go_quiet (fail)
                              go_wp2
                              go_quiet (fail)
                              go_wp2_with ((with_reducible refine gate_builtin (b := .append) (xs := #[.tmp 115, .tmp 117]) rfl ?_); at_builtin; refine col_append (Kd.int .i64) (w0 := w) w.heap.size rfl (.tmp 115) (.tmp 117) 37 2 (.int .i64 0) 8 rfl Tryd.underlying37 info2 rfl (by decide) (by omega) (u14) (z) (x) [.int .i64 (x)] 5 col rfl rfl rfl (by (with_reducible repeat (first | apply Kd.R_alloc | apply Kd.R_drewN | apply Kd.R_drew)); exact HO13.out) (by repeat (first | exact HB.out | apply below_alloc | apply pw_below_drewN)) (below_size (by repeat (first | exact HB.out | apply below_alloc | apply pw_below_drewN))) (by first | assumption | omega) ?_; intro vn w1 col' hm1 ho1 hb1; have m0 := Aside0.mk ho1; have mB := Aside0.mk hb1; have m1 := Aside0.mk (hm1 _ _ _ _ 0 _ _ (by decide) (by (with_reducible repeat (first | apply Kd.R_alloc | apply Kd.R_drewN | apply Kd.R_drew)); exact HT8.out)); have m2 := Aside0.mk (hm1 _ _ _ _ 0 _ _ (by decide) (by (with_reducible repeat (first | apply Kd.R_alloc | apply Kd.R_drewN | apply Kd.R_drew)); exact HOs.out)); have m3 := Aside0.mk (hm1 _ _ _ _ 1 _ _ (by decide) (by (with_reducible repeat (first | apply Kd.R_alloc | apply Kd.R_drewN | apply Kd.R_drew)); exact HO9.out)); have m4 := Aside0.mk (hm1 _ _ _ _ 2 _ _ (by decide) (by (with_reducible repeat (first | apply Kd.R_alloc | apply Kd.R_drewN | apply Kd.R_drew)); exact HO10.out)); have m5 := Aside0.mk (hm1 _ _ _ _ 3 _ _ (by decide) (by (with_reducible repeat (first | apply Kd.R_alloc | apply Kd.R_drewN | apply Kd.R_drew)); exact HO5.out)); have m6 := Aside0.mk (hm1 _ _ _ _ 4 _ _ (by decide) (by (with_reducible repeat (first | apply Kd.R_alloc | apply Kd.R_drewN | apply Kd.R_drew)); exact HO12.out)); clear hm1 ho1 hb1 HB HO13 HT8 HOs HO9 HO10 HO5 HO12; have HO13 := m0; have HB := mB; have HT8 := m1; have HOs := m2; have HO9 := m3; have HO10 := m4; have HO5 := m5; have HO12 := m6; clear m0 mB m1 m2 m3 m4 m5 m6; obtain ⟨hxu, hfu⟩ := Kd.R_celln 0 HO5.out x hx0 hx2; have hputg := Kd.R_putg HO5.out x (rd tk x + 1); have HX := Aside0.mk hputg.1; have HMV := Aside0.mk (show Moved 3 col' col' w1 (w1.setCell ⟨g5, x.toNat, none⟩ (.int .i64 (u + 1))) from by rw [← hu]; exact moved_same (HO5.out.1 g5 rfl) hputg.2); clear hputg; rw [show rdOf 0 tk x = u from hu] at hxu; have GB5 := Aside0.mk (Kd.R_typed HO5.out g5 rfl).choose_spec)
                              go_roundw
                              case measure => simp [intOf]; omega
                              case rel => exact ⟨i + 1, o, z ++ [x], tk.set x.toNat (rd tk x + 1), col', by go_num, by omega, HRS2, ⟨⟨okTk_set HK.out.1 hx0 hx1 (by rw [hu, hcd]; exact HE.out), by have := HK.out; simp; omega, by have := HK.out; simp; omega, HK.out.2.2.2.1, fun y hy => (List.mem_append.1 hy).elim (HK.out.2.2.2.2 y) (fun h => by rw [List.mem_singleton.1 h]; exact ⟨hx0, hx1⟩)⟩⟩, ⟨HMV.out _ _ _ _ 0 _ _ (by decide) HT8.out⟩, ⟨HMV.out _ _ _ _ 0 _ _ (by decide) HOs.out⟩, ⟨HMV.out _ _ _ _ 1 _ _ (by decide) HO9.out⟩, ⟨HMV.out _ _ _ _ 2 _ _ (by decide) HO10.out⟩, ⟨by rw [← hu]; exact HX.out⟩, ⟨HMV.out _ _ _ _ 4 _ _ (by decide) HO12.out⟩, ⟨HMV.out _ _ _ _ 5 _ _ (by decide) HO13.out⟩, ⟨below_set HB.out (Kd.R_base HO5.out g5 rfl)⟩⟩
                        · have hspin := HRS.out
                          rw [List.drop_eq_nil_of_le (by omega)] at hspin
                          simp only [spin] at hspin
                          subst hspin
                          have H1 := H.out
                          simp only at H1
                          have H2 := Aside0.mk (show fin (srun l0 kq tk (L ++ [o, z]).reverse (sl ++ [(s.length : Int)]) od) = (r1, r2, r3) from by rw [List.reverse_append]; exact H1)
                          obtain ⟨A12, c12, rfl⟩ := Kd.R_slice HO12.out
                          obtain ⟨A13, c13, rfl⟩ := Kd.R_slice HO13.out
                          have k8 := Aside0.mk (re_other (x := 5) (y := 4) (by decide) HT8.out)
                          have k9 := Aside0.mk (re_other (x := 5) (y := 4) (by decide) HO9.out)
                          have k10 := Aside0.mk (re_other (x := 5) (y := 4) (by decide) HO10.out)
                          have k5 := Aside0.mk (re_other (x := 5) (y := 4) (by decide) HO5.out)
                          have k12 := Aside0.mk (Kd.R_bound (re_other (x := 5) (y := 4) (by decide) HO12.out))
                          have k13 := Aside0.mk (Kd.R_bound (re_self (y := 4) HO13.out))
                          have hlL : (L.length + [o, z].length) * 24 ≤ 140737488355328 := by have := HL'.out; have := HM.out; have := HN.out; simp; omega
                          have KI := Aside0.mk (show okTk l0 tk ∧ ∀ s ∈ L ++ [o, z], okSet l0 s from ⟨HK.out.1, fun y hy => by
                            have hz := HS.out.1
                            have hk := HK.out
                            rcases List.mem_append.1 hy with hy | hy
                            · exact HI'.out.2 y hy
                            · rcases List.mem_cons.1 hy with rfl | hy
                              · exact ⟨by omega, hk.2.2.2.1⟩
                              · rw [List.mem_singleton.1 hy]
                                exact ⟨by omega, hk.2.2.2.2⟩⟩)
                          clear H1 H HT8 HO9 HO10 HO5 HO12 HO13 HOs
                          go_wp2_with (first
                            | ((with_reducible refine gate_dst (N := 129) rfl ?_); refine col_lit (Kd.slice 2 (Kd.int .i64)) (w0 := w) w.heap.size 37 ?hg (N := 129) ?hd (xs := [o, z]) (inner := [.slice A12 o.length c12, .slice A13 z.length c13]) 4 (re col 5 4) ?hr ?hp HB.out HB.out.size (by simp) ?_; (case hd => rfl); (case hg => rfl); (case hr => first | (go_simp; done) | (go_simp; rfl)); (case hp => exact Reps.snoc (Reps.snoc (Reps.none _ _) (Kd.M_row (Kd.R_mono k12.out (fun _ hk => ⟨hk.1, hk.2.2.1⟩))) rfl) (Kd.M_row (Kd.R_mono k13.out (fun _ hk => ⟨hk.1, hk.2.2.1⟩))) rfl); intro v120 w1 col' hm1 ho1 hb1; have HU := Aside0.mk ho1; have mB := Aside0.mk hb1; have HT8 := Aside0.mk (hm1 _ _ _ _ 0 _ _ (by decide) k8.out); have HO9 := Aside0.mk (hm1 _ _ _ _ 1 _ _ (by decide) k9.out); have HO10 := Aside0.mk (hm1 _ _ _ _ 2 _ _ (by decide) k10.out); have HO5 := Aside0.mk (hm1 _ _ _ _ 3 _ _ (by decide) k5.out); clear hm1 ho1 hb1 HB k8 k9 k10 k5 k12 k13; have HB := mB; clear mB)
                            | ((with_reducible refine gate_builtin (b := .append) (xs := #[.tmp 126, .tmp 129]) rfl ?_); at_builtin; refine col_append_row (Kd.slice 2 (Kd.int .i64)) (w0 := w) w.heap.size rfl (.tmp 126) (.tmp 129) 67 37 (.slice none 0 0) 24 rfl Tryd.underlying67 (by kernel_rfl) rfl (by decide) (by omega) (.slice (some ⟨g8, 0, none⟩) m c8) v120 L [o, z] 0 4 (by decide) col' rfl rfl HT8.out HU.out HB.out HB.out.size hlL ?_; intro vr w2 col4 hm1 ho1 hb1; have mB := Aside0.mk hb1; have m8 := Aside0.mk ho1; have m9 := Aside0.mk (hm1 _ _ _ _ 1 _ _ (by decide) (by decide) HO9.out); have m10 := Aside0.mk (hm1 _ _ _ _ 2 _ _ (by decide) (by decide) HO10.out); have m5 := Aside0.mk (hm1 _ _ _ _ 3 _ _ (by decide) (by decide) HO5.out); clear hm1 ho1 hb1 HB HT8 HU HO9 HO10 HO5))
                          go_roundg kq
                          case measure => omega
                          case rel => exact ⟨L ++ [o, z], tk, sl ++ [(s.length : Int)], od, col4, H2, KI, ⟨by have := HL'.out; have := HM.out; have := HN.out; simp; omega⟩, m8, m9, m10, m5, mB⟩
    · have e := H0.out
      unfold splitOf at e
      have hco : areCoins l0 = false := by
        unfold areCoins
        by_cases h1 : 1 ≤ l0.length
        · rw [decide_eq_false (show ¬ l0.length ≤ 12 by omega)]; simp
        · rw [decide_eq_false h1]; rfl
      rw [hco, if_neg (by decide)] at e
      simp only [Prod.mk.injEq] at e
      obtain ⟨rfl, rfl, rfl⟩ := e
      have hst' : (decide (1 ≤ (l0.length : Int)) && decide ((l0.length : Int) ≤ 12)) = false := by
        by_cases h1 : 1 ≤ l0.length
        · rw [decide_eq_false (show ¬ (l0.length : Int) ≤ 12 by omega), Bool.and_false]
        · rw [decide_eq_false (show ¬ 1 ≤ (l0.length : Int) by omega), Bool.false_and]
      simp only [hst'] at hst
      have HST := Aside0.mk hst
      clear hN hst hst' hlen hco
      go_enter Tryd.func19, Tryd.ntmps19
      go_wp2_with (go_at_call 42; refine (HST.out _).mono ?_; rintro e w1 ⟨rfl, ⟨nd, rfl⟩⟩)
      go_ret3
      exact ⟨_, _, rfl, Kd.R_nil _ _ _ _ _, Kd.R_nil _ _ _ _ _, by repeat (first | exact HB.out | apply pw_below_drewN)⟩
  · rw [if_neg hs] at h; cases h

end Go.Proofs.YtbbchbmoaahidaaDoor.G
