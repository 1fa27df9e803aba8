/- The walk of begun; no statement of the seat is proved here. -/
import Derived.Test.YtgjjcbcmjbnfnaaDoorLives
namespace Go.Proofs.YtgjjcbcmjbnfnaaDoor
open Go.RowKit

set_option maxHeartbeats 4000000 in
set_option maxRecDepth 100000 in
theorem begun_any (w : World) (hG : GlobErr w) : Calls Tryd.prog 9 #[] w fun e w' => ∃ q b p r g s L, e = .returned (.pointer (some ⟨q, 0, none⟩)) ∧
    w.heap.size ≤ b ∧ b < p ∧ w.heap.size ≤ s.bm ∧ p < g ∧ g < r ∧ r < q ∧ (∀ k, L.texts.ownBlock = some k → w.heap.size ≤ k) ∧
    w'.heap[q]? = some (.cells [.pointer (some ⟨b, 0, none⟩), .pointer (some ⟨p, 0, none⟩), .pointer (some ⟨r, 0, none⟩), .bool false].toArray 33) ∧
    w'.heap[r]? = some (.cells [.slice (some ⟨g, 0, none⟩) 1 1, .int .i64 0, .bool false, .int .i64 0, .slice none 0 0, .int .i64 0].toArray 86) ∧
    w'.heap[g]? = some (.cells [.int .i64 0, .slice none 0 0, .int .i64 0].toArray 53) ∧
    G w' b p s L [] 1 x0 ∧ L.st [] = x0 ∧ Below w.heap.size w w' := by
  have hw0 := hG.pos
  have HG := Lib.hid hG
  clear hG
  go_enter Tryd.func9, Tryd.ntmps9
  go_wp2_with fail
  refine (newDisk_any w).mono ?_
  rintro e w1 ⟨rfl, hD1, hU1⟩
  have hd1 := GD.new hD1
  have HG1 := Lib.hid (HG.out.upd hU1 hw0 (by simp))
  have HO := Lib.hid (hd1.open (by omega) HG1.out)
  have HU1 := Lib.hid hU1
  have hblt := hD1.lt
  clear hD1 hd1 hU1
  go_wp2_with fail
  refine HO.out.mono ?_
  rintro e w2 ⟨p, bm2, v2, rfl, hp2, hbm2, hG2, hv2, hU2⟩
  have HG2 := Lib.hid hG2
  have HU2 := Lib.hid hU2
  clear hG2 hU2 HO
  go_wp2_with fail
  go_ret
  have hz := HU2.out.size
  have hpl := HG2.out.list.lt
  have hB2 : Below w.heap.size w w2 := HU1.out.below.trans (HU2.out.mono (B' := w.heap.size) (S' := []) (by omega) (by intro y hy; simp at hy; right; omega)).below
  have hU3 : Upd w2.heap.size [] w2 (((w2.alloc (.cells #[.int .i64 0, .slice none 0 0, .int .i64 0] 53)).alloc (.cells #[.slice (some ⟨w2.heap.size, 0, none⟩) 1 1, .int .i64 0, .bool false, .int .i64 0, .slice none 0 0, .int .i64 0] 86)).alloc (.cells #[.pointer (some ⟨w.heap.size + 1, 0, none⟩), .pointer (some ⟨p, 0, none⟩), .pointer (some ⟨w2.heap.size + 1, 0, none⟩), .bool false] 33)) :=
    (((Upd.refl _ _ _).alloc (Nat.le_refl _) _).alloc (by simp) _).alloc (by simp; omega) _
  refine ⟨w2.heap.size + 1 + 1, w.heap.size + 1, p, w2.heap.size + 1, w2.heap.size, _, _, rfl, by omega, by omega, by show w.heap.size ≤ bm2; omega, hpl, by omega, by omega, ?_, ?_, ?_, ?_, HG2.out.keep hU3 (Nat.le_refl _) (by simp) (by simp) (by simp) (by simp), rfl, hB2.trans (hU3.mono (B' := w.heap.size) (S' := []) (by omega) (by simp)).below⟩
  · intro k hk; have := hv2 k hk; omega
  · exact alloc_new _ (by simp)
  · exact (Below.heap_alloc _ _ _ (by simp)).trans (alloc_new _ (by simp))
  · exact (Below.heap_alloc _ _ _ (by simp; omega)).trans ((Below.heap_alloc _ _ _ (by simp)).trans (alloc_new _ rfl))
end Go.Proofs.YtgjjcbcmjbnfnaaDoor
