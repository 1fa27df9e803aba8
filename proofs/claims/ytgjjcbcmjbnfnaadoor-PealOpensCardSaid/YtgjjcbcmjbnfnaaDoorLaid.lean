/- What the rows of this seat share: the listed variable, the witness's heap; no statement of the seat is proved here. -/
import Derived.Test.YtgjjcbcmjbnfnaaDoorTie
import Derived.Test.YtgjjcbcmjbnfnaaDoorCards
import Derived.Test.YtgjjcbcmjbnfnaaDoorRead
import Derived.ProofKit
import Derived.LaidMore
import Derived.OpenShut
import Derived.Stop.Joined
import Derived.Stop.LaidErr
import Derived.SliceStrings
namespace Go.Proofs.YtgjjcbcmjbnfnaaDoor
open Go.ChangeShapes Go.WideShapes Go.ChangeAt Go.WideMaps Go.WideElems Go.RowKit

theorem Tryd.own : ownKnob Tryd.prog.godebug = none := by kernel_rfl
theorem Tryd.laidOut : laidOutB Tryd.prog = true := by kernel_rfl
theorem Tryd.cells9 : Tryd.prog.cellsOf 9 = 1 := by kernel_rfl
theorem Tryd.gErr : Tryd.prog.globalNamed "bellpull/peal.errImage" = some 0 := by kernel_rfl
theorem Tryd.tErr : (Tryd.prog.globals[0]?).map (·.type) = some 139 := by kernel_rfl
theorem Tryd.cells186 : Tryd.prog.cellsOf 186 = 1 := by kernel_rfl

noncomputable abbrev laidL : List (String × DataW Unit) := [("bellpull/peal.errImage", Rows.laid_bellpull_peal_errImage)]

theorem door_met (os : Os) (args : Array Value) : laidMetH Tryd.prog laidL ((World.doorLaid Tryd.prog 28 os).forCall (fun _ _ => 0) ⟨#[], args, []⟩).memory :=
  laidMetH_of_parts3 (fuel := 8) (laidMet_of_run' 8 (by kernel_rfl) (by kernel_rfl)) (by kernel_rfl) (by kernel_rfl)

theorem glob_of_laid {W : World} (h : laidMetH Tryd.prog laidL W) : GlobErr W := by
  rw [MakeChecks.laidMetH_plain _ _ _ (by kernel_rfl)] at h
  obtain ⟨ps, ⟨g0, t0, cs0, f0, p0, q0, hg0, ht0, hv0, hd0, _, e0⟩, _, hrows⟩ := h
  obtain rfl := Option.some.inj (Tryd.gErr.symm.trans hg0)
  obtain rfl := Option.some.inj (Tryd.tErr.symm.trans ht0)
  subst e0
  obtain ⟨l0⟩ := cs0
  have hc := World.var?_cell hg0 hv0 0
  obtain ⟨f1, u, v, hl, hn, h1⟩ := iface_of_trod Tryd.underlying139 hd0
  have hl' : l0 = [.iface u v] := hl
  rw [hl'] at hc
  exact ⟨u, v, hc⟩

/-- A slice of strings that came in, as the walks want it. -/
theorem strs_in {H : Type} {enc : TypeId × Value → H} {W : World} {fuel : Nat} {a : Option Addr} {len cap : Nat} {x : DataW H × List MemPlace} (h : DataW.trod enc Tryd.prog W 0 (fun _ => true) true fuel 22 [.slice a len cap] = some x) :
    ∃ T : List ByteArray, T.length = len ∧ (∀ j s, T[j]? = some s → ∃ g o, a = some ⟨g, o, none⟩ ∧ W.cell? ⟨g, o + j, none⟩ = some (.string s)) ∧ T.length ≤ 9223372036854775807 ∧ ∀ t ∈ T, t.size ≤ maxLen := by
  rcases open_strings Tryd.underlying22 Tryd.underlying9 Tryd.cells9 h with ⟨hcs, _⟩ | ⟨ad, len', cap', ss, hcs, _, hl, hm, hz, _, hcell, hws⟩
  · simp only [List.cons.injEq, Value.slice.injEq, and_true] at hcs
    obtain ⟨rfl, rfl, rfl⟩ := hcs
    exact ⟨[], rfl, by simp, by simp, by simp⟩
  · simp only [List.cons.injEq, Value.slice.injEq, and_true] at hcs
    obtain ⟨rfl, rfl, rfl⟩ := hcs
    simp only [if_true] at hz
    unfold maxLen at hm
    refine ⟨ss.take len, by rw [List.length_take]; omega, fun j s hj => ?_, by rw [List.length_take]; omega, fun t ht => hws t (List.mem_of_mem_take ht)⟩
    have hjl := (List.getElem?_eq_some_iff.1 hj).1
    rw [List.length_take] at hjl
    obtain ⟨b, off, spot⟩ := ad
    have hspot : spot = none := by simpa [Addr.add] using World.cell?_spot (hcell 0 (by omega))
    subst hspot
    refine ⟨b, off, rfl, ?_⟩
    have h1 := hcell j (by omega)
    rw [add_plain] at h1
    rw [h1]
    rw [List.getElem?_take, if_pos (by omega)] at hj
    rw [List.getD_eq_getElem?_getD, hj]
    rfl
end Go.Proofs.YtgjjcbcmjbnfnaaDoor
