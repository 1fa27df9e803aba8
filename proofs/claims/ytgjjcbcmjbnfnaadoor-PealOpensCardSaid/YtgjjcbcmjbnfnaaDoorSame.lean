/- The walk of Same at two states that are alike; no statement of the seat is proved here. -/
import Derived.Test.YtgjjcbcmjbnfnaaDoorPKept
namespace Go.Proofs.YtgjjcbcmjbnfnaaDoor
open Go.RowKit

theorem SRd.upd {w w' : World} {v : Value} {ts : List ByteArray} {B : Nat} {S : List Nat} (h : SRd w v ts) (hU : Upd B S w w') (hB : w.heap.size ≤ B) (hS : ∀ g, v.ownBlock = some g → g ∉ S) : SRd w' v ts := by
  obtain ⟨a, c, rfl, hc, hr⟩ := h
  refine ⟨a, c, rfl, hc, fun j s hj => ?_⟩
  obtain ⟨g, o, ha, hcell⟩ := hr j s hj
  refine ⟨g, o, ha, ?_⟩
  rw [hU.cell (p := ⟨g, o + j, none⟩) (Nat.lt_of_lt_of_le (World.block_lt_of_cell? w _ hcell) hB) (hS g (by rw [ha]; rfl))]
  exact hcell

set_option maxHeartbeats 4000000 in
set_option maxRecDepth 100000 in
theorem same_any (w : World) (l m : Nat) (va vb : Value) (ts : List ByteArray) (ha : SRd w va ts) (hb : SRd w vb ts) (hts : ts.length ≤ 1000000) :
    Calls Tryd.prog 21 #[.agg #[.int .i64 l, va, .int .i64 m], .agg #[.int .i64 l, vb, .int .i64 m]] w fun e w' => e = .returned (.bool true) ∧ Below w.heap.size w w' := by
  obtain ⟨a, ca, rfl, hca, hra⟩ := ha
  obtain ⟨b, cb, rfl, hcb, hrb⟩ := hb
  have HA := Lib.hid hra
  have HB := Lib.hid hrb
  clear hra hrb
  go_enter Tryd.func21, Tryd.ntmps21
  go_wp2_with fail
  generalize hW : (w.alloc (.cells #[.int .i64 l, .slice a ts.length ca, .int .i64 m] 53)).alloc (.cells #[.int .i64 l, .slice b ts.length cb, .int .i64 m] 53) = W
  have hb0 : Below w.heap.size w W := by rw [← hW]; exact ((Below.refl _ _).alloc (Nat.le_refl _) _).alloc (by simp) _
  have e1 : W.cell? ⟨w.heap.size, 1, none⟩ = some (.slice a ts.length ca) := by rw [← hW]; simp
  have e2 : W.cell? ⟨w.heap.size + 1, 1, none⟩ = some (.slice b ts.length cb) := by rw [← hW]; simp
  have HB0 := Lib.hid hb0
  clear hW hb0
  go_loopw [5] (fun i wr => ∃ k : Nat, k ≤ ts.length ∧ i = .int .i64 k ∧ ∃ n, wr = W.drewN n) (fun i _ => ts.length - (intOf i).toNat)
  case atStart => exact ⟨0, Nat.zero_le _, rfl, 0, rfl⟩
  case round =>
    obtain ⟨k, hk, rfl, n, rfl⟩ := hrel
    by_cases hlt : k < ts.length
    · obtain ⟨g, o, rfl, hc⟩ := HA.out k ts[k] (List.getElem?_eq_getElem hlt)
      obtain ⟨g', o', rfl, hc'⟩ := HB.out k ts[k] (List.getElem?_eq_getElem hlt)
      have d1 : W.cell? ⟨g, o + k, none⟩ = some (.string ts[k]) := by rw [HB0.out.cell (p := ⟨g, o + k, none⟩) (World.block_lt_of_cell? w _ hc)]; exact hc
      have d2 : W.cell? ⟨g', o' + k, none⟩ = some (.string ts[k]) := by rw [HB0.out.cell (p := ⟨g', o' + k, none⟩) (World.block_lt_of_cell? w _ hc')]; exact hc'
      clear hc hc'
      go_wp2_with fail
      go_quiet (fail)
      go_wp2
      go_roundw
      case rel => exact ⟨k + 1, by omega, by go_num, n + nq, rfl⟩
      case measure => simp [intOf]; omega
    · have hkn : k = ts.length := by omega
      subst hkn
      go_wp2
      go_ret
      exact ⟨rfl, below_drewN HB0.out n⟩
end Go.Proofs.YtgjjcbcmjbnfnaaDoor
