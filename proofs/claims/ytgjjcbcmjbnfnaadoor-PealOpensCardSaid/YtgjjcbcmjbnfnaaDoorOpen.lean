/- The walk of Open; no statement of the seat is proved here. -/
import Derived.Test.YtgjjcbcmjbnfnaaDoorList
namespace Go.Proofs.YtgjjcbcmjbnfnaaDoor
open Go.RowKit

theorem open_nil (w : World) : Calls Tryd.prog 16 #[.pointer none] w fun e w' => e = .returned (.tuple #[.pointer none, .int .i64 1]) ∧ w = w' := by
  go_enter Tryd.func16, Tryd.ntmps16
  go_wp2_with (go_at_call 47; refine (good_nil w).mono ?_; rintro e w' ⟨rfl, rfl⟩)
  go_ret2
  exact ⟨rfl, rfl⟩

theorem open_not {b : Nat} {w : World} (h0 : w.cell? ⟨b, 0, none⟩ = some (.bool false)) : Calls Tryd.prog 16 #[.pointer (some ⟨b, 0, none⟩)] w fun e w' => e = .returned (.tuple #[.pointer none, .int .i64 1]) ∧ w = w' := by
  go_enter Tryd.func16, Tryd.ntmps16
  go_wp2_with (go_at_call 47; refine (good_not h0).mono ?_; rintro e w' ⟨rfl, rfl⟩)
  go_ret2
  exact ⟨rfl, rfl⟩

theorem open_down (b : Nat) (w : World) (s : Dk) (hD : IsDisk w b s) (hd : s.down = true) : Calls Tryd.prog 16 #[.pointer (some ⟨b, 0, none⟩)] w fun e w' => e = .returned (.tuple #[.pointer none, .int .i64 8]) ∧ w = w' := by
  have h0 := hD.c0
  have h1 := hD.c1
  rw [hd] at h1
  go_enter Tryd.func16, Tryd.ntmps16
  go_wp2_with (go_at_call 47; refine (good_any h0).mono ?_; rintro e w' ⟨rfl, rfl⟩)
  go_ret2
  exact ⟨rfl, rfl⟩

set_option maxHeartbeats 4000000 in
set_option maxRecDepth 100000 in
theorem open_any (b : Nat) (w : World) (s : Dk) (hD : IsDisk w b s) (hd : s.down = false) (hl0 : 0 ≤ s.left) (hl2 : s.left < 4611686018427387904) (ho : 0 ≤ s.opened) (ho2 : s.opened < 4611686018427387904)
    (rs : Nat → Option Rt) (hrs : ∀ k, k < 2 → RootSt (blk s.bs k) (rs k)) (m : Rt) (last mark : Nat) (ts : List ByteArray)
    (hN : Newest s rs m last mark ts) (hl : last < 281474976710656) (hm : mark < 281474976710656) (hts : ts.length ≤ 40) (h24 : ∀ s ∈ ts, s.size ≤ 24) (hG : GlobErr w) :
    Calls Tryd.prog 16 #[.pointer (some ⟨b, 0, none⟩)] w fun e w' => (s.left = 1 → e = .returned (.tuple #[.pointer none, .int .i64 8]) ∧ IsDisk w' b { s.act with opened := s.opened + 1 }) ∧
      (s.left ≠ 1 → ∃ p bm v, e = .returned (.tuple #[.pointer (some ⟨p, 0, none⟩), .int .i64 0]) ∧ w.heap.size ≤ p ∧ w.heap.size ≤ bm ∧ IsDisk w' b { s.act with opened := s.opened + 1, bm := bm, sy := [] } ∧
        IsList w' p b { broken := false, turn := s.turn, opened := s.opened + 1, root := m, dirty := false, last := last, mark := mark, texts := v } ts ∧ w'.ownsRow w.heap.size 9 1 v ts.length (strs ts)) ∧ Upd w.heap.size [b] w w' := by
  have h0 := hD.c0
  have h1 := hD.c1
  rw [hd] at h1
  have HNw := Lib.hid (newest_any b w s hD rs hrs m last mark ts hN hl hm hts h24 hG)
  have HD := Lib.hid hD
  clear hD hrs hN
  go_enter Tryd.func16, Tryd.ntmps16
  go_wp2_with (first | (go_at_call 47; refine (good_any h0).mono ?_; rintro e w' ⟨rfl, rfl⟩))
  refine HNw.out.mono ?_
  rintro e w1 ⟨v, rfl, hown, hb1⟩
  obtain ⟨av, cv, rfl⟩ := own_form hown
  rw [show m.row.toArray = #[.int .i64 m.1, .int .i64 m.2.1, .int .i64 m.2.2] from rfl]
  have hD2 : ∀ o o', IsDisk ((w1.alloc o).alloc o') b s := fun o o' => ((HD.out.keep (Upd.of_below hb1 []) HD.out.lt HD.out.map.lt (by simp) (by simp)).alloc o).alloc o'
  have c4 : ∀ o o', ((w1.alloc o).alloc o').cell? ⟨b, 4, none⟩ = some (.int .i64 s.opened) := fun o o' => (hD2 o o').c4
  have f4 : ∀ o o', ((w1.alloc o).alloc o').frozen? ⟨b, 4, none⟩ = false := fun o o' => (hD2 o o').fr 4
  have hblt := HD.out.lt
  have hbs := hb1.size
  have HD2 := Lib.hid hD2
  clear hD2
  go_wp2_with fail
  obtain ⟨W3, hW3⟩ : ∃ W3, W3 = ((w1.alloc (.cells #[.int .i64 m.1, .int .i64 m.2.1, .int .i64 m.2.2] 89)).alloc (.cells #[.int .i64 last, .int .i64 mark, .slice av ts.length cv] 91)).setCell ⟨b, 4, none⟩ (.int .i64 (s.opened + 1)) := ⟨_, rfl⟩
  have hD3 : IsDisk W3 b { s with opened := s.opened + 1 } := by rw [hW3]; exact (HD2.out _ _).setOpened _
  have hU3 : Upd w1.heap.size [b] w1 W3 := by
    rw [hW3]
    exact (((Upd.refl _ _ _).alloc (Nat.le_refl _) _).alloc (by simp) _).setCell _ (.inr (by simp)) _
  have hr3 : W3.heap[w1.heap.size]? = some (.cells [.int .i64 m.1, .int .i64 m.2.1, .int .i64 m.2.2].toArray 89) := by
    rw [hW3, Below.heap_setCell _ _ _ _ (by simp; omega), Below.heap_alloc _ _ _ (by simp), alloc_new _ rfl]
  have hc3 : W3.heap[w1.heap.size + 1]? = some (.cells [.int .i64 last, .int .i64 mark, .slice av ts.length cv].toArray 91) := by
    rw [hW3, Below.heap_setCell _ _ _ _ (by simp; omega), alloc_new _ (by simp)]
  have hs3 : W3.heap.size = w1.heap.size + 2 := by rw [hW3]; simp
  have hown3 : W3.ownsRow w.heap.size 9 1 (.slice av ts.length cv) ts.length (strs ts) := own_upd hown hU3 (by simp; omega)
  rw [← hW3]
  have HR3 := Lib.hid hr3
  have HC3 := Lib.hid hc3
  have HO3 := Lib.hid hown3
  have HU3 := Lib.hid hU3
  have HS := Lib.hid (sync_any b W3 _ hD3 hd hl0 hl2)
  clear hW3 hD3 hU3 hr3 hc3 hown3 HD2 c4 f4 hown h0 h1
  by_cases hleft : s.left = 1
  · have hE : ({ s with opened := s.opened + 1 } : Dk).actE = 8 := by simp [Dk.actE, hleft]
    rw [hE] at HS
    refine HS.out.mono ?_
    rintro e w4 ⟨rfl, hDa, -, hU4⟩
    have hDa' := Lib.hid (hDa hleft)
    clear hDa HS
    go_wp2_with fail
    go_ret2
    refine ⟨fun _ => ⟨rfl, ?_⟩, fun h => absurd hleft h, ?_⟩
    · have h1 := hDa'.out
      have e : ({ s with opened := s.opened + 1 } : Dk).act = { s.act with opened := s.opened + 1 } := by simp [Dk.act, hleft]
      rw [e] at h1; exact h1
    · exact (Upd.of_below hb1 [b]).trans ((HU3.out.mono hbs (by simp)).trans (hU4.mono (by omega) (by simp)))
  · have hE : ({ s with opened := s.opened + 1 } : Dk).actE = 0 := by simp [Dk.actE, hleft]
    rw [hE] at HS
    refine HS.out.mono ?_
    rintro e w4 ⟨rfl, -, hDa, hU4⟩
    obtain ⟨bm, hbm, hD4⟩ := hDa hleft
    have e4 : ({ ({ s with opened := s.opened + 1 } : Dk).act with bm := bm, sy := [] } : Dk) = { s.act with opened := s.opened + 1, bm := bm, sy := [] } := by
      unfold Dk.act
      by_cases h : s.left > 0 <;> simp [h, hleft]
    rw [e4] at hD4
    have hturn : s.act.turn = s.turn := by unfold Dk.act; by_cases h : s.left > 0 <;> simp [h, hleft]
    have d3 : w4.cell? ⟨b, 3, none⟩ = some (.int .i64 s.turn) := by rw [hD4.c3, hturn]
    have d4 : w4.cell? ⟨b, 4, none⟩ = some (.int .i64 (s.opened + 1)) := hD4.c4
    have hr4 := (hU4.block w1.heap.size (by omega) (by simp; omega)).trans HR3.out
    have hc4 := (hU4.block (w1.heap.size + 1) (by omega) (by simp; omega)).trans HC3.out
    have r0 : w4.cell? ⟨w1.heap.size, 0, none⟩ = some (.int .i64 m.1) := by rw [cell_of_heap hr4]; rfl
    have r1 : w4.cell? ⟨w1.heap.size, 1, none⟩ = some (.int .i64 m.2.1) := by rw [cell_of_heap hr4]; rfl
    have r2 : w4.cell? ⟨w1.heap.size, 2, none⟩ = some (.int .i64 m.2.2) := by rw [cell_of_heap hr4]; rfl
    have k0 : w4.cell? ⟨w1.heap.size + 1, 0, none⟩ = some (.int .i64 last) := by rw [cell_of_heap hc4]; rfl
    have k1 : w4.cell? ⟨w1.heap.size + 1, 1, none⟩ = some (.int .i64 mark) := by rw [cell_of_heap hc4]; rfl
    have k2 : w4.cell? ⟨w1.heap.size + 1, 2, none⟩ = some (.slice av ts.length cv) := by rw [cell_of_heap hc4]; rfl
    have HD4 := Lib.hid hD4
    have HU4 := Lib.hid hU4
    have hown4 : Hid (w4.ownsRow w.heap.size 9 1 (.slice av ts.length cv) ts.length (strs ts)) := own_upd HO3.out hU4 (by simp; omega)
    clear hDa HS hD4 hU4 hr4 hc4 HR3 HC3 HO3
    go_wp2_with fail
    go_region
    clear d3 d4 r0 r1 r2 k0 k1 k2
    go_wp2_with fail
    go_ret2
    refine ⟨fun h => absurd h hleft, fun _ => ⟨w4.heap.size, bm, .slice av ts.length cv, rfl, by have := HU4.out.size; omega, by omega, ?_, ?_, own_drew (hown4.out.alloc _)⟩, ?_⟩
    · exact (HD4.out.alloc _).drew
    · exact ⟨alloc_new _ rfl, own_drew (ownsRow_base (hown4.out.alloc _) (Nat.zero_le _))⟩
    · exact ((Upd.of_below hb1 [b]).trans ((HU3.out.mono hbs (by simp)).trans ((HU4.out.mono (by omega) (by simp)).alloc (by have := HU4.out.size; omega) _))).drew
end Go.Proofs.YtgjjcbcmjbnfnaaDoor
