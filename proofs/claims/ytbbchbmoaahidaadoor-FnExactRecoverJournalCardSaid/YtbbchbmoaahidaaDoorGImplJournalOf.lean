-- written by this claim's own program out of the translation
import Derived.Test.YtbbchbmoaahidaaDoorG0
import Derived.Test.YtbbchbmoaahidaaDoorGImplWithin
import Derived.Test.YtbbchbmoaahidaaDoorGImplCheckOf
namespace Go.Proofs.YtbbchbmoaahidaaDoor.G
open Go.RowKit Go.Proofs.YtbbchbmoaahidaaDoorW.PrintWords Go.Proofs.YtbbchbmoaahidaaDoorW.PrintLast Go.Proofs.YtbbchbmoaahidaaDoorW.PrintMore
attribute [local go_sem] max2_int min2_int max_two min_two max_three min_three max_four min_four   -- for this text's walks alone
set_option linter.unusedVariables false
set_option linter.unusedSimpArgs false

/-! ### impl_JournalOf: function 16 -/
theorem impl_CheckOf.l0_any (s : ByteArray) (hs : s.size ≤ 9223372036854775806) : ∀ (d i k : Nat) (n : Int), i + d = s.size → d < k → 0 ≤ n → n ≤ 65002 → impl_CheckOf.l0 k n s (s.size : Int) (i : Int) = some (chk n ((by_ s).drop i), true)
  | 0, i, k, n, hi, hk, _, _ => by
    obtain ⟨k, rfl⟩ : ∃ m, k = m + 1 := ⟨k - 1, by omega⟩
    simp only [impl_CheckOf.l0]
    rw [if_neg (by omega), List.drop_eq_nil_of_le (by rw [by_length]; omega)]
    rfl
  | d + 1, i, k, n, hi, hk, h0, h1 => by
    obtain ⟨k, rfl⟩ : ∃ m, k = m + 1 := ⟨k - 1, by omega⟩
    have hlt : i < (by_ s).length := by rw [by_length]; omega
    have hc : ((by_ s)[i].toNat : Int) ≤ 255 := by have := ((by_ s)[i]).toNat_lt; omega
    have e : Int.tmod (wrap64 ((wrap64 ((wrap64 (3001 * n)) + (wrap64 (((by_ s)[i].toNat : Int))))) + 5)) 65003 = chk1 n (by_ s)[i] := by
      rw [wrap64_id (x := 3001 * n) (by omega) (by omega), wrap64_id (x := ((by_ s)[i].toNat : Int)) (by omega) (by omega), wrap64_id (x := 3001 * n + ((by_ s)[i].toNat : Int)) (by omega) (by omega), wrap64_id (x := 3001 * n + ((by_ s)[i].toNat : Int) + 5) (by omega) (by omega)]
      unfold chk1
      exact Int.tmod_eq_emod_of_nonneg (by omega)
    have r := chk1_range n (by_ s)[i]
    simp only [impl_CheckOf.l0]
    rw [if_pos (by omega), if_pos (by omega), if_pos (by omega), bt_nat s i hlt, e, wrap64_id (x := (i : Int) + 1) (by omega) (by omega), show ((i : Int) + 1) = ((i + 1 : Nat) : Int) by omega, impl_CheckOf.l0_any s hs d (i + 1) k (chk1 n (by_ s)[i]) (by omega) (by omega) r.1 r.2, drop_at _ i hlt]
    rfl
theorem impl_CheckOf.any (s : ByteArray) (n : Int) (w : World) (hs : s.size ≤ 9223372036854775806) (h0 : 0 ≤ n) (h1 : n ≤ 65002) :
    Calls Tryd.prog 36 #[.int .i64 n, .string s] w fun e w' => e = .returned (.tuple #[.int .i64 (chk n (by_ s)), .bool true]) ∧ Drawn0 w w' := by
  refine impl_CheckOf.calls (s.size + 1) n s _ _ w ?_
  unfold impl_CheckOf.f impl_within.f
  rw [if_pos (by omega)]
  simp only [Option.bind_some]
  rw [if_pos (by simpa using h1)]
  have := impl_CheckOf.l0_any s hs s.size 0 (s.size + 1) n (by omega) (by omega) h0 h1
  simpa using this
/-- Decimal: what a number is in digits. -/
theorem impl_Decimal.any (n : Int) (w : World) (hT : Tabs w) (h0 : -9223372036854775808 ≤ n) (h1 : n ≤ 9223372036854775807) :
    Calls Tryd.prog 38 #[.int .i64 n] w fun e w' => e = .returned (.string (itoaB n)) ∧ Below w.heap.size w w' := by
  have hcon := Tryd.strconv_FormatInt_10 n h0 h1 w hT.pow
  change Calls Tryd.prog 59 _ _ (fun e w' => e = .returned (.string (itoaB n)) ∧ ∃ k os, w' = Go.Sort.grow (w.drewN k) os) at hcon
  generalize itoaB n = r at hcon ⊢
  have HC := Aside0.mk hcon
  clear hcon
  go_enter Tryd.func38, Tryd.ntmps38
  go_wp2_with (go_at_call 59; refine HC.out.mono ?_; rintro e w1 ⟨rfl, k, os, rfl⟩)
  go_ret
  exact ⟨rfl, below_grow _ _ (Nat.le_refl _) _ _⟩
def impl_JournalOf.f (l0 : List ByteArray) : Option (ByteArray × Bool) := if l0.length ≤ 140737488351232 ∧ ∀ s ∈ l0, s.size ≤ 140737488351232 then some (jres (jgo l0 0 ⟨#[]⟩)) else none
set_option maxHeartbeats 800000 in
set_option maxRecDepth 100000 in
theorem impl_JournalOf.calls (A0 : Option Addr) (c0 : Nat) (l0 : List ByteArray) (r1 : ByteArray) (r2 : Bool) (w : World) (hr0 : Kd.C Kd.string w A0 l0.length l0) (hc0 : l0.length ≤ c0) (hT : Tabs w) (h : impl_JournalOf.f l0 = some (r1, r2)) :
    Calls Tryd.prog 16 #[.slice A0 l0.length c0] w fun e w' => e = .returned (.tuple #[.string r1, .bool r2]) ∧ Below w.heap.size w w' := by
  have HR0 := Aside0.mk hr0
  have HC0 := Aside0.mk hc0
  have HT := Aside0.mk hT
  clear hr0 hc0 hT
  unfold impl_JournalOf.f at h
  by_cases hs : l0.length ≤ 140737488351232 ∧ ∀ s ∈ l0, s.size ≤ 140737488351232
  · rw [if_pos hs] at h
    have H := Aside0.mk (Option.some.inj h)
    have HS := Aside0.mk hs.2
    have hlen0 := hs.1
    clear h hs
    go_enter Tryd.func16, Tryd.ntmps16
    go_wp2
    go_loopw [5, 11] (fun v5 v11 wr => ∃ (n i : Int) (acc : ByteArray), v5 = .int .i64 n ∧ v11 = .int .i64 i ∧ 0 ≤ i ∧ i ≤ l0.length ∧ 0 ≤ n ∧ n ≤ 65002 ∧ acc.size ≤ 4000 ∧ Aside0 (jres (jgo (l0.drop i.toNat) n acc) = (r1, r2)) ∧ Aside0 (Lib.IsBuilder 55 5 w.heap.size w.heap.size (Lib.byteCells (by_ acc)) wr) ∧ Aside0 (Below w.heap.size w wr)) (fun _ i _ => l0.length - (intOf i).toNat)
    case atStart => exact ⟨0, 0, ⟨#[]⟩, rfl, rfl, by omega, by omega, by omega, by omega, by decide, H, ⟨Lib.fresh_isBuilder _ _ w⟩, ⟨below_alloc (Below.refl _ _) _⟩⟩
    case round =>
      clear H
      obtain ⟨n, i, acc, rfl, rfl, hi0, hi1, hn0, hn1, hsz, H, HD, HB⟩ := hrel
      by_cases hlt : i < l0.length
      · obtain ⟨ad, ea, hx⟩ := Kd.at_string (Kd.C_below HR0.out HB.out) i hi0 hlt
        cases ea
        have hd : l0.drop i.toNat = rdOf ByteArray.empty l0 i :: l0.drop (i.toNat + 1) := by
          rw [drop_at l0 i.toNat (by omega)]
          simp only [rdOf, List.getD_eq_getElem?_getD]
          rw [List.getElem?_eq_getElem (by omega)]
          rfl
        have hm : (rdOf ByteArray.empty l0 i).size ≤ 140737488351232 := by
          refine HS.out _ ?_
          have : rdOf ByteArray.empty l0 i ∈ l0.drop i.toNat := by rw [hd]; exact List.mem_cons_self
          exact List.mem_of_mem_drop this
        generalize rdOf ByteArray.empty l0 i = s at hx hd hm
        have H1 := H.out
        rw [hd] at H1
        clear hd H
        by_cases hc : (by_ s).contains 10 = true
        · have hcb : decide (0 ≤ Lib.indexByte s.data.toList 10) = true := (Lib.contains_iff_indexByte _ _).symm.trans hc
          have H2 : (jres none : ByteArray × Bool) = (r1, r2) := by rw [← H1]; simp only [jgo, if_pos hc]
          simp only [jres, Prod.mk.injEq] at H2
          obtain ⟨rfl, rfl⟩ := H2
          clear H1 hc
          go_wp2_with (go_at_call 35; refine (Tryd.strings_Contains_one s 10 _).mono ?_; rintro e w1 ⟨rfl, hw1⟩; obtain rfl := hw1.symm)
          go_ret2
          exact ⟨rfl, HB.out⟩
        · have hcb : decide (0 ≤ Lib.indexByte s.data.toList 10) = false := (Lib.contains_iff_indexByte _ _).symm.trans (by simpa using hc)
          have H2 := H1
          simp only [jgo, if_neg hc] at H2
          clear H1 hc
          have hr := chk_range (by_ s) n hn0 hn1
          have hjl := jline_size (chk n (by_ s)) s
          have hil := itoa_len (chk n (by_ s)) hr.1 hr.2
          have H3 := Aside0.mk H2
          have HJL := Aside0.mk hjl
          clear H2 hjl
          go_wp2_with (go_at_call 35; refine (Tryd.strings_Contains_one s 10 _).mono ?_; rintro e w1 ⟨rfl, hw1⟩; obtain rfl := hw1.symm)
          go_wp2_with (go_at_call 36; refine (impl_CheckOf.any s n _ (by omega) hn0 hn1).mono ?_; rintro e w1 ⟨rfl, ⟨nd, rfl⟩⟩)
          generalize hm' : chk n (by_ s) = m at hr hil H3 HJL
          have HM := Aside0.mk hm'
          clear hm'
          refine (impl_Decimal.any m _ (HT.out.below (by repeat (first | exact HB.out | apply pw_below_drewN))) (by omega) (by omega)).mono ?_
          rintro e w2 ⟨rfl, hb2⟩
          have HB2 := Aside0.mk (below_step (by repeat (first | exact HB.out | apply pw_below_drewN)) hb2)
          have HD2 := Aside0.mk (builder_below (show Lib.IsBuilder _ _ _ _ _ (wr.drewN nd) from HD.out) hb2)
          clear hb2 HB HD
          generalize hi' : itoaB m = d at hil HJL
          have HI := Aside0.mk hi'
          clear hi'
          have f1 : d.size + 1 ≤ 9223372036854775807 := by omega
          have f2 : d.size + 1 + s.size ≤ 9223372036854775807 := by omega
          have f3 : d.size + 1 + s.size + 1 ≤ 9223372036854775807 := by omega
          have hl : (Lib.byteCells (by_ acc)).length + (d ++ ⟨#[32]⟩ ++ s ++ ⟨#[10]⟩ : ByteArray).size ≤ 140737488355328 := by
            rw [Lib.byteCells_length, by_length]
            have hj := HJL.out
            simp only [jline, HI.out] at hj
            omega
          have HL := Aside0.mk hl
          clear hl
          go_wp2_with fail
          have hws := writeString_any w.heap.size w.heap.size (Lib.byteCells (by_ acc)) (d ++ ⟨#[32]⟩ ++ s ++ ⟨#[10]⟩) w2 HD2.out HL.out HB2.out.size
          refine hws.mono ?_
          clear hws
          rintro e w3 ⟨rfl, hd3, hb3⟩
          have HB3 := Aside0.mk (below_weaken HB2.out (Nat.le_refl _) hb3)
          have HD3 := Aside0.mk (show Lib.IsBuilder 55 5 w.heap.size w.heap.size (Lib.byteCells (by_ (acc ++ jline m s))) w3 from .inr (by rw [by_append, Lib.byteCells_append, jline, HI.out]; exact hd3))
          have hlen : ((Lib.byteCells (by_ (acc ++ jline m s))).length : Int) = (acc ++ jline m s).size := by rw [Lib.byteCells_length, by_length]
          clear hd3 hb3 HB2 HD2
          by_cases hbig : 4000 < (acc ++ jline m s).size
          · have H4 := H3.out
            rw [if_pos hbig] at H4
            simp only [jres, Prod.mk.injEq] at H4
            obtain ⟨rfl, rfl⟩ := H4
            clear H3
            have hbb : decide ((4000 : Int) < ((Lib.byteCells (by_ (acc ++ jline m s))).length : Int)) = true := decide_eq_true (by omega)
            have hL := Tryd.Builder_Len w.heap.size w.heap.size _ w3 HD3.out
            generalize (Lib.byteCells (by_ (acc ++ jline m s))).length = N at hbb hL
            clear hlen hbig
            go_wp2_with fail
            refine hL.mono ?_
            rintro e w4 ⟨rfl, hw4⟩
            obtain rfl := hw4.symm
            clear hL
            go_wp2
            go_ret2
            exact ⟨rfl, HB3.out⟩
          · have H4 := H3.out
            rw [if_neg hbig] at H4
            have H5 := Aside0.mk H4
            clear H4 H3
            have hbb : decide ((4000 : Int) < ((Lib.byteCells (by_ (acc ++ jline m s))).length : Int)) = false := decide_eq_false (by omega)
            have hsz' : (acc ++ jline m s).size ≤ 4000 := by omega
            have hL := Tryd.Builder_Len w.heap.size w.heap.size _ w3 HD3.out
            generalize hN : (Lib.byteCells (by_ (acc ++ jline m s))).length = N at hbb hL
            clear hlen hbig hN
            go_wp2_with fail
            refine hL.mono ?_
            rintro e w4 ⟨rfl, hw4⟩
            obtain rfl := hw4.symm
            clear hL
            go_wp2
            go_roundw
            case measure => simp [intOf]; omega
            case rel => exact ⟨m, i + 1, acc ++ jline m s, rfl, by go_num, by omega, by omega, by omega, by omega, hsz', ⟨by rw [show (i + 1).toNat = i.toNat + 1 by omega]; exact H5.out⟩, HD3, HB3⟩
      · clear hlen0
        have hd : l0.drop i.toNat = [] := List.drop_eq_nil_of_le (by omega)
        have H1 := H.out
        rw [hd] at H1
        simp only [jgo, jres, Prod.mk.injEq] at H1
        obtain ⟨rfl, rfl⟩ := H1
        have hS := Tryd.Builder_String_any w.heap.size w.heap.size (by_ acc) wr HD.out HB.out.size
        go_wp2_with fail
        refine hS.mono ?_
        rintro e w4 ⟨rfl, hb4⟩
        clear hS
        go_wp2
        go_ret2
        exact ⟨rfl, below_weaken HB.out (Nat.le_refl _) hb4⟩
  · rw [if_neg hs] at h; cases h

end Go.Proofs.YtbbchbmoaahidaaDoor.G
