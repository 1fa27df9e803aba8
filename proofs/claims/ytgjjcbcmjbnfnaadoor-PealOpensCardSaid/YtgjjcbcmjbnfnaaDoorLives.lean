/- The walk of lives; no statement of the seat is proved here. -/
import Derived.Test.YtgjjcbcmjbnfnaaDoorRestartC
namespace Go.Proofs.YtgjjcbcmjbnfnaaDoor
open Go.RowKit

abbrev sa : ByteArray := ⟨#[97]⟩
abbrev sb : ByteArray := ⟨#[98]⟩
abbrev x0 : St := ⟨0, [], 0⟩

theorem GD.new {w : World} {b m : Nat} (h : IsDisk w b (Dk.new m)) : GD w b (Dk.new m) 0 (0, 0, 0) x0 :=
  ⟨h, rfl, rfl, rfl, Img.new, ⟨by simp, by simp, by simp, by simp, by simp⟩, Nat.le_refl _, ⟨Int.le_refl _, Int.le_refl _⟩, ⟨Int.le_refl _, Int.le_refl _⟩, by omega⟩

theorem GD.restart {w : World} {b : Nat} {s : Dk} {n : Nat} {m : Rt} {x : St} (h : GD w b s n m x) (keep : Int) (hn : n + 1 < 1000000000) :
    Calls Tryd.prog 25 #[.pointer (some ⟨b, 0, none⟩), .int .i64 keep] w fun e w' => e = .returned (.tuple #[]) ∧ ∃ bm, w.heap.size ≤ bm ∧
      GD w' b { s with turn := s.turn + 1, bm := bm } (n + 1) m x ∧ Upd w.heap.size [b] w w' := by
  have hb := h.big
  refine (restart_clean b w s keep h.disk h.sy h.turn.1 (by have := h.turn.2; omega)).mono fun e w' ⟨he, bm, h1, h2, h3⟩ => ⟨he, bm, h1, ?_, h3⟩
  have e1 : ({ s with down := false, left := 0, turn := s.turn + 1, bm := bm, sy := [] } : Dk) = { s with turn := s.turn + 1, bm := bm } := by
    have a1 := h.left
    have a2 := h.down
    have a3 := h.sy
    cases s
    simp at a1 a2 a3
    simp [a1, a2, a3]
  rw [e1] at h2
  exact ⟨h2, h.left, h.down, h.sy, h.img, h.ok.more (by omega), Nat.le_trans h.rt (by omega), ⟨by show 0 ≤ s.turn + 1; have := h.turn.1; omega, by show s.turn + 1 ≤ _; have := h.turn.2; omega⟩, ⟨h.opened.1, by show s.opened ≤ _; have := h.opened.2; omega⟩, hn⟩

set_option maxHeartbeats 4000000 in
set_option maxRecDepth 100000 in
theorem lives_any (w : World) (hG : GlobErr w) : Calls Tryd.prog 10 #[] w fun e w' => e = .returned (.bool true) ∧ Below w.heap.size w w' := by
  have hw0 := hG.pos
  have HG := Lib.hid hG
  clear hG
  go_enter Tryd.func10, Tryd.ntmps10
  go_wp2_with fail
  refine (newDisk_any w).mono ?_
  rintro e w1 ⟨rfl, hD1, hU1⟩
  have hd1 := GD.new hD1
  have HG1 := Lib.hid (HG.out.upd hU1 hw0 (by simp))
  have HO := Lib.hid (hd1.open (by omega) HG1.out)
  have HU1 := Lib.hid hU1
  clear hD1 hd1 hU1
  go_wp2_with fail
  refine HO.out.mono ?_
  rintro e w2 ⟨p, bm2, v2, rfl, hp2, hbm2, hG2, hv2, hU2⟩
  have HA := Lib.hid (hG2.add sa (by decide) (by omega))
  have HU2 := Lib.hid hU2
  clear hG2 hU2 HO
  go_wp2_with fail
  refine HA.out.mono ?_
  rintro e w3 ⟨rfl, v3, hG3, hv3, hU3⟩
  have HB := Lib.hid (hG3.add sb (by decide) (by omega))
  have HU3 := Lib.hid hU3
  clear hG3 hU3 HA
  go_wp2_with fail
  refine HB.out.mono ?_
  rintro e w4 ⟨rfl, v4, hG4, hv4, hU4⟩
  have HM := Lib.hid (hG4.mark 1 (by show 1 ≤ 0 + 1 + 1; omega))
  have HU4 := Lib.hid hU4
  clear hG4 hU4 HB
  go_wp2_with fail
  refine HM.out.mono ?_
  rintro e w5 ⟨rfl, hG5, hU5⟩
  have HM := Lib.hid (mark_arg p _ w5 _ _ _ 3 hG5.list hG5.gd.disk hG5.works (by right; show ((0 + 1 + 1 : Nat) : Int) < 3; omega))
  have HG5 := Lib.hid hG5
  have HU5 := Lib.hid hU5
  clear hG5 hU5
  go_wp2_with fail
  refine HM.out.mono ?_
  rintro e w6 ⟨rfl, k6, rfl⟩
  have HS := Lib.hid ((HG5.out.drewN k6).sync (by omega))
  clear HM HG5
  go_wp2_with fail
  refine HS.out.mono ?_
  rintro e w7 ⟨rfl, bs7, bm7, r7, hbm7, hG7, hU7⟩
  have HRs := Lib.hid (hG7.gd.restart 0 (by omega))
  have HL7 := Lib.hid hG7.list
  have HU7 := Lib.hid hU7
  have hN7 := list_disk_ne hG7.list hG7.gd.disk
  have HR7 := Lib.hid (fun g => @row_disk_ne _ _ _ _ _ _ hG7.list hG7.gd.disk g)
  clear hG7 hU7 HS
  go_wp2_with fail
  refine HRs.out.mono ?_
  rintro e w8 ⟨rfl, bm8, hbm8, hD8, hU8⟩
  go_wp2_with fail
  have hz1 := HU1.out.size
  have hz2 := HU2.out.size
  have hz3 := HU3.out.size
  have hz4 := HU4.out.size
  have hz5 := HU5.out.size
  have hz7 : w5.heap.size ≤ w7.heap.size := HU7.out.size
  have hz8 := hU8.size
  have HBm : Hid (∀ {A C : World} {B : Nat} {S : List Nat}, Upd B S A C → w.heap.size ≤ B → (∀ x ∈ S, w.heap.size ≤ x) → Below w.heap.size w A → Below w.heap.size w C) :=
    Lib.hid (fun hU hB hS hA => hA.trans (hU.mono hB (fun x hx => .inr (hS x hx))).below)
  have B1 : Below w.heap.size w w1 := HU1.out.below
  have B2 := HBm.out HU2.out hz1 (by simp) B1
  have r2 : ∀ g, v2.ownBlock = some g → w.heap.size ≤ g := fun g hg => by have := hv2 g hg; omega
  have B3 := HBm.out HU3.out (by omega) (by intro x hx; rcases List.mem_cons.1 hx with rfl | hx; omega; exact r2 x (by simpa using hx)) B2
  have r3 : ∀ g, v3.ownBlock = some g → w.heap.size ≤ g := fun g hg => by rcases hv3 g hg with h | h; exact r2 g h; omega
  have B4 := HBm.out HU4.out (by omega) (by intro x hx; rcases List.mem_cons.1 hx with rfl | hx; omega; exact r3 x (by simpa using hx)) B3
  have B5 := HBm.out HU5.out (by omega) (by simp; omega) B4
  have hbm2' : w.heap.size ≤ bm2 := by omega
  have B7 := HBm.out HU7.out (by show w.heap.size ≤ w5.heap.size; omega) (by simp; omega) (below_drewN B5 k6)
  have B8 := HBm.out hU8 (by omega) (by simp) B7
  have HO := Lib.hid (hD8.open (by omega) (HG.out.upd (Upd.of_below B8 []) hw0 (by simp)))
  have HB8 := Lib.hid B8
  have HU8 := Lib.hid hU8
  clear hz1 hz2 hz3 hz4 hz5 B1 B2 B3 B4 B5 B7 B8 hD8 hU8 HRs
  refine HO.out.mono ?_
  rintro e w9 ⟨p9, bm9, v9, rfl, hp9, hbm9, hG9, hv9, hU9⟩
  have hL9 : IsList w9 p _ _ _ := (HL7.out.keepO HU8.out (Nat.le_refl _) (by simp; exact hN7.1) (by simp; exact fun e => (HR7.out _ e).1 rfl)).keepO hU9 (Nat.le_refl _) (by simp; exact hN7.1) (by simp; exact fun e => (HR7.out _ e).1 rfl)
  have HS := Lib.hid (lsync_closed p _ w9 _ _ _ hL9 hG9.gd.disk (by simp [Ls.works, Dk.new]))
  have HG9 := Lib.hid hG9
  have HU9 := Lib.hid hU9
  clear hL9 hG9 hU9 HO
  go_wp2_with fail
  refine HS.out.mono ?_
  rintro e w10 ⟨rfl, k10, rfl⟩
  have hG10 := HG9.out.drewN k10
  have HK := Lib.hid (kept_any p9 _ _ _ _ hG10.list hG10.ok.len (by show 0 + 1 + 1 < _; omega))
  have HG10 := Lib.hid hG10
  clear hG10 HG9 HS
  go_wp2_with fail
  refine HK.out.mono ?_
  rintro e w11 ⟨v11, rfl, hown, hb11⟩
  have hown' : w11.ownsRow (w9.drewN k10).heap.size 40 2 v11 2 (ents 1 [sa, sb]) := hown
  obtain ⟨g, cap, hv11⟩ := own_succ hown'
  subst hv11
  have hc2 : w11.cell? ⟨g, 2, none⟩ = some (.int .i64 2) := by
    have := hown'.cells (g := g) rfl 2 (.int .i64 2) rfl
    rwa [add_addr, Nat.zero_add] at this
  have hc3 : w11.cell? ⟨g, 3, none⟩ = some (.string sb) := by
    have := hown'.cells (g := g) rfl 3 (.string sb) rfl
    rwa [add_addr, Nat.zero_add] at this
  have hL11 := HG10.out.list.keep (Upd.of_below hb11 []) (Nat.le_refl _) (by simp) (by simp)
  have k14 := Lib.hid (last_any p9 _ w11 _ _ hL11)
  have k15 := Lib.hid (marked_any p9 _ w11 _ _ hL11)
  have HBf : Hid (Below w.heap.size w w11) := Lib.hid ((below_drewN (HBm.out HU9.out (by have := HB8.out.size; omega) (by simp) HB8.out) k10).trans (hb11.mono (by show w.heap.size ≤ w9.heap.size; have := HB8.out.size; have := HU9.out.size; omega)))
  clear hown hown' hb11 hL11 HK HG10 hbm7 hN7 hz7 hz8 r2 r3 hbm2' hv2 hv3 hv4 hv9 hp2 hp9 hbm2 hbm8 hbm9 HU2 HU3 HU4 HU5 HU7 HU8 HU9 HL7 HR7 HB8 HG1 HU1
  go_wp2_with (first | (go_at_call 14; refine k14.out.mono ?_; rintro e w' ⟨rfl, rfl⟩) | (go_at_call 15; refine k15.out.mono ?_; rintro e w' ⟨rfl, rfl⟩))
  go_ret
  exact ⟨rfl, HBf.out⟩
end Go.Proofs.YtgjjcbcmjbnfnaaDoor
