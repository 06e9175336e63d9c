-- written by this claim's own program out of the translation
import Derived.Test.YtbbchbmoaahidaaDoorG0
import Derived.Test.YtbbchbmoaahidaaDoorGSpecIsName
import Derived.Test.YtbbchbmoaahidaaDoorGSpecL01Bits
namespace Go.Proofs.YtbbchbmoaahidaaDoor.G
open Go.RowKit Go.Proofs.YtbbchbmoaahidaaDoorW.PrintWords Go.Proofs.YtbbchbmoaahidaaDoorW.PrintLast Go.Proofs.YtbbchbmoaahidaaDoorW.PrintMore
attribute [local go_sem] max2_int min2_int max_two min_two max_three min_three max_four min_four   -- for this text's walks alone
set_option linter.unusedVariables false
set_option linter.unusedSimpArgs false

/-! ### spec_ValidConsole: function 9 -/
theorem geq_not (t : TypeId) (a b : ByteArray) : binOp .geq t (.string a) (.string b) = pure (.bool (!(Op.bytesLess a.toList b.toList))) := by simp [binOp, Op.stringOp]
attribute [local go_sem] geq_not
theorem spec_IsName.run (s : ByteArray) (w : World) (hs : s.size ≤ 9223372036854775806) :
    Calls Tryd.prog 54 #[.string s] w fun e w' => e = .returned (.bool (nameB s)) ∧ Drawn0 w w' := by
  obtain ⟨k, hk⟩ := (spec_IsName.any s hs).rounds
  exact spec_IsName.calls k s _ w hk
theorem spec_l01Bits.run (s : ByteArray) (w : World) (hs : s.size ≤ 9223372036854775806) :
    Calls Tryd.prog 55 #[.string s] w fun e w' => e = .returned (.bool (bits400 s)) ∧ Drawn0 w w' := by
  obtain ⟨k, hk⟩ := (spec_l01Bits.any s hs).rounds
  exact spec_l01Bits.calls k s _ w hk
theorem quiet_drawn {P : Program} {f : FuncId} {args : Array Value} {w : World} {n : Nat} {v : Value}
    (h : ∀ W : World, Calls P f args W fun e w' => e = .returned v ∧ Drawn0 W w') : Calls P f args (w.drewN n) fun e w'' => e = .returned v ∧ ∃ m, w'' = w.drewN m :=
  (h _).mono fun _ _ ⟨he, hd⟩ => ⟨he, by obtain ⟨m, hm⟩ := hd.out; exact ⟨n + m, by rw [hm, World.drewN_drewN]⟩⟩
set_option maxHeartbeats 1600000 in
set_option maxRecDepth 100000 in
theorem spec_l11Is.any (b : Nat) (A0 : Option Addr) (c0 : Nat) (l0 : List ByteArray) (A1 : Option Addr) (c1 : Nat) (l1 : List ByteArray) (w : World)
    (hb : w.heap[b]? = some (.cells #[.slice A0 l0.length c0, .slice A1 l1.length c1] 27 (0, 0)))
    (hr0 : Kd.C Kd.string w A0 l0.length l0) (hc0 : l0.length ≤ c0) (hr1 : Kd.C Kd.string w A1 l1.length l1) (hc1 : l1.length ≤ c1)
    (hs0 : ∀ s ∈ l0, s.size ≤ 9223372036854775806) (hs1 : ∀ s ∈ l1, s.size ≤ 9223372036854775806) :
    Calls Tryd.prog 31 #[.pointer (some ⟨b, 0, none⟩)] w fun e w' => e = .returned (.bool (vcon l0 l1)) ∧ Drawn0 w w' := by
  have HB := Aside0.mk hb
  have HR0 := Aside0.mk hr0
  have HR1 := Aside0.mk hr1
  have HC0 := Aside0.mk hc0
  have HC1 := Aside0.mk hc1
  have HS0 := Aside0.mk (fun (i : Int) (h0 : 0 ≤ i) (h : i < l0.length) => show (rdOf ByteArray.empty l0 i).size ≤ 9223372036854775806 from by
    obtain ⟨i, rfl⟩ : ∃ n : Nat, i = n := ⟨i.toNat, by omega⟩
    rw [rdOf_at _ l0 i (by omega)]; exact hs0 _ (List.getElem_mem _))
  have HS1 := Aside0.mk (fun (i : Int) (h0 : 0 ≤ i) (h : i < l1.length) => show (rdOf ByteArray.empty l1 i).size ≤ 9223372036854775806 from by
    obtain ⟨i, rfl⟩ : ∃ n : Nat, i = n := ⟨i.toNat, by omega⟩
    rw [rdOf_at _ l1 i (by omega)]; exact hs1 _ (List.getElem_mem _))
  have hcz0 : w.cell? ⟨b, 0, none⟩ = some (.slice A0 l0.length c0) := (blk_cell HB.out 0).trans rfl
  have hcz1 : w.cell? ⟨b, 1, none⟩ = some (.slice A1 l1.length c1) := (blk_cell HB.out 1).trans rfl
  clear hb hr0 hr1 hc0 hc1 hs0 hs1
  go_enter Tryd.func31, Tryd.ntmps31
  by_cases h6 : l0.length ≤ 6
  · have h6b : decide (6 < (l0.length : Int)) = false := decide_eq_false (by omega)
    by_cases h1 : l1.length = l0.length
    · have h1b : ((l1.length : Int) != (l0.length : Int)) = false := by simp [h1]
      have hv : vcon l0 l1 = vat l0 l1 0 := by unfold vcon vat; rw [decide_eq_true h6, decide_eq_true h1]; rfl
      rw [hv]
      clear hv
      go_wp2
      go_quiet (fail)
      go_wp2
      have H0 := Aside0.mk hcz0
      have H1 := Aside0.mk hcz1
      have HL := Aside0.mk h1
      have H6 := Aside0.mk h6
      clear h1b h6b hcz0 hcz1 h1 h6
      go_loopw [3] (fun v3 wr => ∃ i : Int, v3 = .int .i64 i ∧ 0 ≤ i ∧ i ≤ l0.length ∧ Aside0 (vat l0 l1 0 = vat l0 l1 i.toNat) ∧ Aside0 (Drawn0 w wr)) (fun v3 _ => l0.length - (intOf v3).toNat)
      case atStart => exact ⟨0, rfl, by omega, by omega, ⟨rfl⟩, ⟨⟨⟨_, rfl⟩⟩⟩⟩
      case round =>
        obtain ⟨i, rfl, hi0, hi1, HV, HD⟩ := hrel
        have hcz0 : wr.cell? ⟨b, 0, none⟩ = some (.slice A0 l0.length c0) := by obtain ⟨n, hn⟩ := HD.out.out; rw [hn]; exact H0.out
        have hcz1 : wr.cell? ⟨b, 1, none⟩ = some (.slice A1 l1.length c1) := by obtain ⟨n, hn⟩ := HD.out.out; rw [hn]; exact H1.out
        by_cases hlt : i < l0.length
        · obtain ⟨ad, ea, hx⟩ := Kd.at_string (Kd.C_below HR0.out HD.out.below) i hi0 hlt
          cases ea
          have hlt1 : i < l1.length := by have := HL.out; omega
          obtain ⟨ad1, ea1, hx1⟩ := Kd.at_string (Kd.C_below HR1.out HD.out.below) i hi0 hlt1
          cases ea1
          have RN := Aside0.mk (fun W => spec_IsName.run (rdOf ByteArray.empty l0 i) W (HS0.out i hi0 hlt))
          have RB := Aside0.mk (fun W => spec_l01Bits.run (rdOf ByteArray.empty l1 i) W (HS1.out i hi0 hlt1))
          have HV1 : ∀ j : Int, 0 ≤ j → i = j + 1 → vat l0 l1 i.toNat = (nameB (rdOf ByteArray.empty l0 i) && Op.bytesLess (rdOf ByteArray.empty l0 j).toList (rdOf ByteArray.empty l0 i).toList && bits400 (rdOf ByteArray.empty l1 i) && vat l0 l1 (i + 1).toNat) := by
            rintro j hj rfl
            obtain ⟨j, rfl⟩ : ∃ n : Nat, j = n := ⟨j.toNat, by omega⟩
            have := vat_succ l0 l1 j (by omega) HL.out
            exact this
          have HV0 : i = 0 → vat l0 l1 i.toNat = (nameB (rdOf ByteArray.empty l0 i) && bits400 (rdOf ByteArray.empty l1 i) && vat l0 l1 (i + 1).toNat) := by
            rintro rfl
            exact vat_zero l0 l1 (by omega) HL.out
          have HX := Aside0.mk (fun (j : Int) (h0 : 0 ≤ j) (h : j < l0.length) => (Kd.at_string (Kd.C_below HR0.out HD.out.below) j h0 h))
          generalize hs : rdOf ByteArray.empty l0 i = s at hx RN HV0 HV1
          generalize ht : rdOf ByteArray.empty l1 i = t at hx1 RB HV0 HV1
          clear hs ht
          by_cases h0 : 0 < i
          · have h0b : decide (0 < i) = true := decide_eq_true h0
            obtain ⟨j, hj⟩ : ∃ j : Int, i - 1 = j := ⟨_, rfl⟩
            have hjw : IntKind.i64.wrap (i - 1) = j := by have := H6.out; rw [← hj]; exact (i64_w _).trans (wrap64_id (by omega) (by omega))
            have hj0 : 0 ≤ j := by omega
            have hjl : j < l0.length := by omega
            obtain ⟨ad', ea', hx2⟩ := HX.out j hj0 hjl
            obtain rfl : ad = ad' := Option.some.inj ea'
            have hv := HV1 j hj0 (by omega)
            generalize rdOf ByteArray.empty l0 j = q at hx2 hv
            clear HV0 HV1 HX ea' hj
            have hw1 : wrap64 (i + 1) = i + 1 := by have := H6.out; exact wrap64_id (by omega) (by omega)
            cases hnm : nameB s
            · rw [hnm] at RN hv
              go_wp2
              go_quiet (first | (go_at_call 54; exact quiet_drawn RN.out) | (go_at_call 55; exact quiet_drawn RB.out))
              go_wp2
              go_ret
              exact ⟨by rw [HV.out, hv]; rfl, Drawn0.step HD.out _⟩
            · rw [hnm] at RN hv
              cases hlb : Op.bytesLess q.toList s.toList
              · rw [hlb] at hv
                go_wp2
                go_quiet (first | (go_at_call 54; exact quiet_drawn RN.out) | (go_at_call 55; exact quiet_drawn RB.out))
                go_wp2
                go_ret
                exact ⟨by rw [HV.out, hv]; rfl, Drawn0.step HD.out _⟩
              · rw [hlb] at hv
                cases hbt : bits400 t
                · rw [hbt] at RB hv
                  go_wp2
                  go_quiet (first | (go_at_call 54; exact quiet_drawn RN.out) | (go_at_call 55; exact quiet_drawn RB.out))
                  go_wp2
                  go_ret
                  exact ⟨by rw [HV.out, hv]; rfl, Drawn0.step HD.out _⟩
                · rw [hbt] at RB hv
                  go_wp2
                  go_quiet (first | (go_at_call 54; exact quiet_drawn RN.out) | (go_at_call 55; exact quiet_drawn RB.out))
                  go_wp2
                  go_roundw
                  case measure => simp only [intOf]; have := hw1; omega
                  case rel => exact ⟨i + 1, by rw [hw1], by omega, by omega, ⟨by rw [HV.out, hv]; rfl⟩, ⟨Drawn0.step HD.out _⟩⟩
          · have h0b : decide (0 < i) = false := decide_eq_false h0
            have hv := HV0 (by omega)
            clear HV0 HV1 HX
            cases hnm : nameB s
            · rw [hnm] at RN hv
              go_wp2
              go_quiet (first | (go_at_call 54; exact quiet_drawn RN.out) | (go_at_call 55; exact quiet_drawn RB.out))
              go_wp2
              go_ret
              exact ⟨by rw [HV.out, hv]; rfl, Drawn0.step HD.out _⟩
            · rw [hnm] at RN hv
              cases hbt : bits400 t
              · rw [hbt] at RB hv
                go_wp2
                go_quiet (first | (go_at_call 54; exact quiet_drawn RN.out) | (go_at_call 55; exact quiet_drawn RB.out))
                go_wp2
                go_ret
                exact ⟨by rw [HV.out, hv]; rfl, Drawn0.step HD.out _⟩
              · rw [hbt] at RB hv
                go_wp2
                go_quiet (first | (go_at_call 54; exact quiet_drawn RN.out) | (go_at_call 55; exact quiet_drawn RB.out))
                go_wp2
                go_roundw
                case measure => simp [intOf]; omega
                case rel => exact ⟨i + 1, by go_num, by omega, by omega, ⟨by rw [HV.out, hv]; rfl⟩, ⟨Drawn0.step HD.out _⟩⟩
        · have hv : vat l0 l1 i.toNat = true := vat_end _ _ _ (by omega)
          go_wp2
          go_ret
          exact ⟨by rw [HV.out, hv]; rfl, HD.out⟩
    · have h1b : ((l1.length : Int) != (l0.length : Int)) = true := by simp; omega
      have hv : vcon l0 l1 = false := by unfold vcon; rw [decide_eq_false h1]; simp
      rw [hv]
      go_wp2
      go_quiet (fail)
      go_wp2
      go_ret
      exact ⟨rfl, ⟨_, rfl⟩⟩
  · have h6b : decide (6 < (l0.length : Int)) = true := decide_eq_true (by omega)
    have hv : vcon l0 l1 = false := by unfold vcon; rw [decide_eq_false h6]; rfl
    rw [hv]
    go_wp2
    go_quiet (fail)
    go_wp2
    go_ret
    exact ⟨rfl, ⟨_, rfl⟩⟩
def spec_ValidConsole.f (l0_0 : List ByteArray) (l0_1 : List ByteArray) : Option (Bool) := if (∀ s ∈ l0_0, s.size ≤ 9223372036854775806) ∧ ∀ s ∈ l0_1, s.size ≤ 9223372036854775806 then some (vcon l0_0 l0_1) else none
set_option maxRecDepth 100000 in
theorem spec_ValidConsole.calls (A0_0 : Option Addr) (c0_0 : Nat) (l0_0 : List ByteArray) (A0_1 : Option Addr) (c0_1 : Nat) (l0_1 : List ByteArray) (r : Bool) (w : World) (hr0_0 : Kd.C Kd.string w A0_0 l0_0.length l0_0) (hc0_0 : l0_0.length ≤ c0_0) (hr0_1 : Kd.C Kd.string w A0_1 l0_1.length l0_1) (hc0_1 : l0_1.length ≤ c0_1) (h : spec_ValidConsole.f l0_0 l0_1 = some r) :
    Calls Tryd.prog 9 #[.agg #[.slice A0_0 l0_0.length c0_0, .slice A0_1 l0_1.length c0_1]] w fun e w' => e = .returned (.bool r) ∧ Below w.heap.size w w' := by
  unfold spec_ValidConsole.f at h
  by_cases hs : (∀ s ∈ l0_0, s.size ≤ 9223372036854775806) ∧ ∀ s ∈ l0_1, s.size ≤ 9223372036854775806
  · rw [if_pos hs] at h
    obtain rfl := Option.some.inj h
    clear h
    have HR0 := Aside0.mk hr0_0
    have HR1 := Aside0.mk hr0_1
    have HS := Aside0.mk hs
    clear hr0_0 hr0_1 hs
    go_enter Tryd.func9, Tryd.ntmps9
    go_wp2_with ((with_reducible refine gate_dst (N := 1) rfl ?_); refine box_event ?hg (N := 1) ?hd (cs := #[.slice A0_0 l0_0.length c0_0, .slice A0_1 l0_1.length c0_1]) (t := 27) ?hr ?_; (case hd => rfl); (case hg => rfl); (case hr => first | (go_simp; done) | (go_simp; rfl)); intro gb hg w3 hbox hb; have hcon := spec_l11Is.any gb A0_0 c0_0 l0_0 A0_1 c0_1 l0_1 w3 hbox (Kd.C_below HR0.out hb) hc0_0 (Kd.C_below HR1.out hb) hc0_1 HS.out.1 HS.out.2; have HK := Aside0.mk hcon; have HB := Aside0.mk hb; clear hcon hbox hb hg)
    go_at_call 31
    refine HK.out.mono ?_
    rintro e w4 ⟨rfl, ⟨nd, rfl⟩⟩
    go_wp2
    go_ret
    exact ⟨rfl, by repeat (first | exact HB.out | apply pw_below_drewN)⟩
  · rw [if_neg hs] at h; cases h

end Go.Proofs.YtbbchbmoaahidaaDoor.G
