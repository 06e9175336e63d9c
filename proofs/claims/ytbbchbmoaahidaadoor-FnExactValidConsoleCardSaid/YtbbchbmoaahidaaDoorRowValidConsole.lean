/-
  Proved here: for every console that a caller can hand to laws.FnExactValidConsole (two slices of texts), on every machine where the two listed tables of the library hold what the program's text lays in them, the law returns true, and the console reads as it did. Condition: the row's own (the listed tables are laid).
-/
import Derived.Test.YtbbchbmoaahidaaDoorGLawsFnExactValidConsole
import Derived.Test.YtbbchbmoaahidaaDoorRowKit
import Derived.Test.YtbbchbmoaahidaaDoorTie
import Derived.Test.YtbbchbmoaahidaaDoorCards
import Derived.Lib.SmallJoins
import Derived.Shelf.Vars
import Derived.SevenTiedAt
import Derived.ShutString
import Derived.OpenShut
import Derived.Stop.Joined
namespace Go.Proofs.YtbbchbmoaahidaaDoor.RowValidConsole
open Go.ChangeShapes Go.WideShapes Go.ChangeAt Go.RowKit
set_option linter.unusedVariables false
theorem own : ownKnob Tryd.prog.godebug = none := by kernel_rfl
theorem laidOut : laidOutB Tryd.prog = true := by kernel_rfl
/-- A one-cell field that is a slice of texts. -/
theorem strs_cell {H : Type} {enc : TypeId × Value → H} {P : Program} {W : World} {base : Nat} {spare : Nat → Bool} {held : Bool} {t e : TypeId} {v : Value} {n : Nat} {y : DataW H × List MemPlace}
    (hu : P.underlying t = some (.slice e)) (he : P.underlying e = some .string) (hc : P.cellsOf e = 1)
    (h : DataW.trod enc P W base spare held n t [v] = some y) : ∃ a len cap, v = .slice a len cap ∧ DataW.Trod enc P W base spare held t (.slice a len cap) y.1 y.2 := by
  have hf : DataW.trod enc P W base spare held n t [v] = some (y.1, y.2) := h
  rcases open_strings hu he hc hf with ⟨hcs, _⟩ | ⟨x, l, c, ss, hcs, _⟩
  · simp at hcs
    subst hcs
    exact ⟨_, _, _, rfl, n, by simpa [Value.cells] using hf⟩
  · simp at hcs
    subst hcs
    exact ⟨_, _, _, rfl, n, by simpa [Value.cells] using hf⟩
theorem sized_agg {H : Type} {P : Program} {ts : List TypeId} {ds : List (DataW H)} {j : Nat} {t : TypeId} {fs : Array Field} {parts : List (DataW H)}
    (h : (DataW.weightsEach P ts ds).all (· ≤ reachBytes) = true) (ht : ts[j]? = some t) (hd : ds[j]? = some (.agg parts)) (hu : P.underlying t = some (.struct fs)) :
    (DataW.weightsEach P (fs.toList.map (·.type)) parts).all (· ≤ reachBytes) = true :=
  List.all_eq_true.2 fun n hn => List.all_eq_true.1 h n (DataW.weights_mem_each ht hd n (by simp only [DataW.weights, hu]; exact hn))
set_option maxRecDepth 100000 in
theorem lifted (os : Os) (started : os.Started) (H : Type) (enc : TypeId × Value → H) :
    ReturnsInHanded {} Tryd.checked os 3 .any (fun w args => (Rows.fnExactValidConsoleSpec.pre enc Tryd.prog Tryd.f3 Rows.fnExactValidConsoleRow.domain false w args ∧ laidMetH Tryd.prog Rows.fnExactValidConsoleRow.laid w) ∧ sizedMet enc Tryd.prog Tryd.f3 (OpenSpec.ofChange Rows.fnExactValidConsoleSpec) false w args)
      (Rows.fnExactValidConsoleSpec.post enc Tryd.prog Tryd.f3 false true false false) := by
  refine change_and_shaped (C := Tryd.checked) (X := fun w _ => laidMetH Tryd.prog Rows.fnExactValidConsoleRow.laid w) (fun _ _ _ hh h => h.of_heap hh) own started (by kernel_rfl) Tryd.func3
    (ChangeSpec.witness_shaped (enc := enc) (C := Tryd.checked) (os := os) (X := fun w _ => laidMetH Tryd.prog Rows.fnExactValidConsoleRow.laid w) false (World.laidAll Tryd.prog os Rows.fnExactValidConsoleRow.laid) #[.agg #[.slice none 0 0, .slice none 0 0]] 8 (World.laidAll_os _ _ _)
      (World.shaped_of_ZipB (by kernel_rfl) (by kernel_rfl)) (by kernel_rfl) (by kernel_rfl) (by kernel_rfl)
      (by rw [MakeChecks.laidMetH_plain _ _ _ (by kernel_rfl)]; exact laidMet_laidAll _ (by kernel_rfl) (by kernel_rfl))) ?_
  intro W base args ds gs before hval0 hW hsz0 hL hS
  have hsz : (DataW.weightsEach Tryd.prog (Tryd.f3.params.toList ++ Rows.fnExactValidConsoleSpec.plain.varTypes Tryd.prog) (ds ++ gs)).all (· ≤ reachBytes) = true := hsz0
  have hval : ∀ (j : Nat) t v, Tryd.f3.params[j]? = some t → args[j]? = some v → Value.okWide Tryd.prog W .any base t v := hval0
  have hW' := hW
  obtain ⟨p, q, hA0, hV, rfl, hfz, hnd⟩ := hW
  have hA : DataW.TrodAll enc Tryd.prog W 0 (fun _ => true) true Tryd.f3.params.toList args.toList ds p := hA0
  rw [Tryd.params3] at hA hval hsz
  obtain ⟨v0, vs0, d0, ds0, p0, q0, hargs, rfl, rfl, h0, r0⟩ := trodAll_cons hA
  obtain ⟨rfl, rfl, rfl⟩ := trodAll_nil r0
  obtain rfl : args = #[v0] := by cases args; simp_all
  obtain ⟨rfl, rfl⟩ := trodVars_none hV
  have k0 := h0
  have lt0 : ∀ x ∈ p0, x.block < W.heap.size := by obtain ⟨m, hm⟩ := k0; exact DataW.trod_lt m _ _ _ hm
  obtain ⟨u0, u1, y0, y1, n, rfl, rfl, rfl, t0, t1⟩ := Joins.open_agg2 Tryd.underlying24 (by kernel_rfl) (by kernel_rfl) (hval 0 24 v0 rfl rfl) h0
  obtain ⟨a0, len0, cap0, rfl, g0⟩ := strs_cell Tryd.underlying22 Tryd.underlying9 (by kernel_rfl) t0
  obtain ⟨a1, len1, cap1, rfl, g1⟩ := strs_cell Tryd.underlying22 Tryd.underlying9 (by kernel_rfl) t1
  obtain ⟨l0, rfl, hc0, hR0, hs0, hd0⟩ := strs_reads Tryd.underlying22 Tryd.underlying9 (by kernel_rfl) g0
  obtain ⟨l1, rfl, hc1, hR1, hs1, hd1⟩ := strs_reads Tryd.underlying22 Tryd.underlying9 (by kernel_rfl) g1
  have hz := sized_agg hsz (j := 0) (t := 24) rfl rfl Tryd.underlying24
  have z0 : l0.length * 16 ≤ 140737488351232 := strs_sized hz (j := 0) (t := 22) (d := y0.1) rfl rfl Tryd.underlying22 (by kernel_rfl) hd0
  have z1 : l1.length * 16 ≤ 140737488351232 := strs_sized hz (j := 1) (t := 22) (d := y1.1) rfl rfl Tryd.underlying22 (by kernel_rfl) hd1
  clear hA0 hval0 hsz0 hsz hL hS hz
  obtain ⟨k, hk⟩ := G.laws_FnExactValidConsole.pure l0 l1 (by omega) (by omega) hs0 hs1
  refine (G.laws_FnExactValidConsole.calls k a0 cap0 l0 a1 cap1 l1 true W hR0 hc0 hR1 hc1 hk).mono fun e W' ⟨he, bel⟩ => ?_
  subst he
  exact ⟨_, rfl, _, _, _, [], _, [], hW', trodAll_mk1 (shut_bool Tryd.underlying4 _), (trodAll_cons_mk (Below.trod laidOut (by kernel_rfl) (of_decide_eq_true (by kernel_rfl)) k0 bel lt0) trodAll_mk0), rfl, bel.frame _, fun h => by cases h⟩
theorem over : Rows.fnExactValidConsoleRow.holds Tryd.pinned (OpenSpec.ofChange Rows.fnExactValidConsoleSpec) :=
  OpenClaim.holds_of_wide 3 Tryd.f3 rfl rfl rfl rfl rfl rfl rfl ⟨rfl, rfl, rfl, rfl, rfl⟩ rfl rfl rfl rfl rfl (by kernel_rfl) Tryd.func3 (by kernel_rfl)
    (of_decide_eq_true (by kernel_rfl)) (by unfold Func.isWrapper; first | (rw [if_pos (by decide +kernel)]; kernel_rfl) | (rw [if_neg (by decide +kernel)]; exact ⟨rfl, rfl⟩))
    (fun os started H enc _ => lifted os started H enc)
theorem holds : Rows.FnExactValidConsoleSaid := over
theorem card_holds : Rows.FnExactValidConsoleCardSaid :=
  Claim7.holds_tied_plain_at .later [] [.data, .pinned] true (true, "10527493d621f3f451d78adb02334cf746ebd86d60b5a3e38d1bd4df459abda5") false holds (fun _ h => by cases h) (by kernel_rfl) (fun _ h => by cases h) fnExactValidConsole_row_tie rfl ⟨rfl, rfl⟩ (by kernel_rfl) rfl
    (fun f fn hf hfn => by
      obtain rfl : f = 3 := Option.some.inj ((show Tryd.prog.funcNamed "loop.example/g01142/laws.FnExactValidConsole" = some 3 by kernel_rfl).symm.trans hf) |>.symm
      obtain rfl : fn = Tryd.f3 := (Option.some.inj (Tryd.func3.symm.trans hfn)).symm
      exact ⟨by kernel_rfl, fun j t ht => by
        rw [Tryd.params3] at ht
        have hm : t ∈ [24] := by simpa using Array.mem_of_getElem? ht
        have hall : ([24].all fun u => !Tryd.prog.wantsStandIn u) = true := by kernel_rfl
        exact (show Tryd.prog.wantsStandIn t = false by simpa using List.all_eq_true.1 hall t hm)⟩)
    (by kernel_rfl)
#print axioms holds
#print axioms card_holds
end Go.Proofs.YtbbchbmoaahidaaDoor.RowValidConsole
