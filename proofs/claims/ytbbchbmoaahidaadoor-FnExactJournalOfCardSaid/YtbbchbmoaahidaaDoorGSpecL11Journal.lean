-- written by this claim's own program out of the translation
import Derived.Test.YtbbchbmoaahidaaDoorG0
import Derived.Test.YtbbchbmoaahidaaDoorGSpecL01Check
import Derived.Test.YtbbchbmoaahidaaDoorGSpecL01Dec
namespace Go.Proofs.YtbbchbmoaahidaaDoor.G
open Go.RowKit Go.Proofs.YtbbchbmoaahidaaDoorW.PrintWords Go.Proofs.YtbbchbmoaahidaaDoorW.PrintLast Go.Proofs.YtbbchbmoaahidaaDoorW.PrintMore
attribute [local go_sem] max2_int min2_int max_two min_two max_three min_three max_four min_four   -- for this text's walks alone
set_option linter.unusedVariables false
set_option linter.unusedSimpArgs false

/-! ### spec_l11Journal: function 34 -/
def spec_l11Journal.f (l0 : List ByteArray) : Option (ByteArray) := if l0.length ≤ 140737488351232 ∧ (jacc l0 0 ⟨#[]⟩).size ≤ 140737488351232 then some (jacc l0 0 ⟨#[]⟩) else none
set_option maxHeartbeats 1600000 in
set_option maxRecDepth 100000 in
theorem spec_l11Journal.calls (A0 : Option Addr) (c0 : Nat) (l0 : List ByteArray) (r : ByteArray) (w : World) (hr0 : Kd.C Kd.string w A0 l0.length l0) (hc0 : l0.length ≤ c0) (h : spec_l11Journal.f l0 = some r) :
    Calls Tryd.prog 34 #[.slice A0 l0.length c0] w fun e w' => e = .returned (.string r) ∧ Below w.heap.size w w' := by
  have HR0 := Aside0.mk hr0
  have HC0 := Aside0.mk hc0
  clear hr0 hc0
  unfold spec_l11Journal.f at h
  by_cases hs : l0.length ≤ 140737488351232 ∧ (jacc l0 0 ⟨#[]⟩).size ≤ 140737488351232
  · rw [if_pos hs] at h
    have H := Aside0.mk (Option.some.inj h)
    have HS := Aside0.mk (show r.size ≤ 140737488351232 from by rw [← H.out]; exact hs.2)
    have hlen0 := hs.1
    clear h hs
    go_enter Tryd.func34, Tryd.ntmps34
    go_wp2
    go_loopw [3, 4, 5] (fun v3 v4 v5 wr => ∃ (n i : Int) (acc : ByteArray), v3 = .string acc ∧ v4 = .int .i64 n ∧ v5 = .int .i64 i ∧ 0 ≤ i ∧ i ≤ l0.length ∧ 0 ≤ n ∧ n ≤ 65002 ∧ Aside0 (jacc (l0.drop i.toNat) n acc = r) ∧ Aside0 (Below w.heap.size w wr)) (fun _ _ i _ => l0.length - (intOf i).toNat)
    case atStart => exact ⟨0, 0, ⟨#[]⟩, rfl, rfl, rfl, by omega, by omega, by omega, by omega, H, ⟨Below.refl _ _⟩⟩
    case round =>
      clear H
      obtain ⟨n, i, acc, rfl, rfl, rfl, hi0, hi1, hn0, hn1, H, HB⟩ := hrel
      by_cases hlt : i < l0.length
      · obtain ⟨ad, ea, hx⟩ := Kd.at_string (Kd.C_below HR0.out HB.out) i hi0 hlt
        cases ea
        have hd : l0.drop i.toNat = rdOf ByteArray.empty l0 i :: l0.drop (i.toNat + 1) := by
          rw [drop_at l0 i.toNat (by omega)]
          simp only [rdOf, List.getD_eq_getElem?_getD]
          rw [List.getElem?_eq_getElem (by omega)]
          rfl
        generalize rdOf ByteArray.empty l0 i = s at hx hd
        have H1 := H.out
        rw [hd] at H1
        simp only [jacc] at H1
        have hge := jacc_ge (l0.drop (i.toNat + 1)) (chk n (by_ s)) (acc ++ jline (chk n (by_ s)) s)
        rw [H1, ByteArray.size_append, jline_size] at hge
        have hrs := HS.out
        have H2 := Aside0.mk H1
        clear hd H H1
        have hr := chk_range (by_ s) n hn0 hn1
        obtain ⟨k1, hk1⟩ := (spec_l01Check.any s n (by omega) hn0 hn1).rounds
        obtain ⟨k2, hk2⟩ := (spec_l01Dec.any (chk n (by_ s)) (by omega) (by omega)).rounds
        generalize hm' : chk n (by_ s) = m at hr hge H2 hk1 hk2
        generalize hi' : itoaB m = d at hge hk2
        have HI := Aside0.mk hi'
        have K1 := Aside0.mk hk1
        have K2 := Aside0.mk hk2
        clear hm' hi' hk1 hk2
        have HDEC := Aside0.mk (fun W => spec_l01Dec.calls k2 m d W K2.out)
        have f1 : ¬ 9223372036854775807 < d.size + 1 := by omega
        have f2 : ¬ 9223372036854775807 < d.size + 1 + s.size := by omega
        have f3 : ¬ 9223372036854775807 < d.size + 1 + s.size + 1 := by omega
        have f4 : ¬ 9223372036854775807 < acc.size + (d.size + 1 + s.size + 1) := by omega
        go_wp2_with (go_at_call 46; refine (spec_l01Check.calls k1 n s m _ K1.out).mono ?_; rintro e w1 ⟨rfl, ⟨nd, rfl⟩⟩)
        go_region_held3 (fun w' => w'.cell? (ad.add i.toNat) = some (.string s)) (first | go_keep | exact (hb1.cell (World.block_lt_of_cell? _ _ hx)).trans hx) (((with_reducible refine (HDEC.out _).mono ?_); rintro e w1 ⟨rfl, hb1⟩))
        have HB1 := Aside0.mk (below_step (by repeat (first | exact HB.out | apply pw_below_drewN)) hb1)
        go_wp2
        go_roundw
        case measure => simp [intOf]; omega
        case rel => exact ⟨m, i + 1, acc ++ jline m s, by rw [jline, HI.out], rfl, by go_num, by omega, by omega, by omega, by omega, ⟨by rw [show (i + 1).toNat = i.toNat + 1 by omega]; exact H2.out⟩, HB1⟩
      · have hd : l0.drop i.toNat = [] := List.drop_eq_nil_of_le (by omega)
        have H1 := H.out
        rw [hd] at H1
        simp only [jacc] at H1
        subst H1
        go_wp2
        go_ret
        exact ⟨rfl, HB.out⟩
  · rw [if_neg hs] at h; cases h

end Go.Proofs.YtbbchbmoaahidaaDoor.G
