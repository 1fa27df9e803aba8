/- The walk of PealOpens; no statement of the seat is proved here. -/
import Derived.Test.YtgjjcbcmjbnfnaaDoorState
import Derived.Test.YtgjjcbcmjbnfnaaDoorSame
import Derived.LaidEqlPtr
namespace Go.Proofs.YtgjjcbcmjbnfnaaDoor
open Go.RowKit

theorem zeroDisk_cell (w : World) : (w.alloc (.cells Tryd.zeroCells49 49)).cell? ⟨w.heap.size, 0, none⟩ = some (.bool false) := by
  rw [zeroCells49_eq, cell_of_heap (alloc_new _ rfl)]; rfl

/-- A disk's pointer is itself. -/
theorem eql29 (b : Nat) (w : World) : (binOp .eql 29 (.pointer (some ⟨b, 0, none⟩)) (.pointer (some ⟨b, 0, none⟩))).run Tryd.prog w = .ok (.bool true) w := by
  obtain ⟨j, hj⟩ : ∃ j, Tryd.prog.info? 49 = some j := Option.isSome_iff_exists.1 (by kernel_rfl : (Tryd.prog.info? 49).isSome = true)
  exact run_eql_ptr_same w ⟨b, 0, none⟩ Tryd.underlying29 hj

/-- A disk of zeros that is up, behind k restarts. -/
structure PO (B : Nat) (W0 : World) (b k : Nat) (wr : World) (s : Dk) : Prop where
  disk : IsDisk wr b s
  down : s.down = false
  sy : s.sy = []
  bs : s.bs = zs
  turn : s.turn = k
  opened : s.opened = k
  left : 0 ≤ s.left ∧ s.left ≤ 7
  last : k = 2 → s.left = 0
  bel : Below B W0 wr
  lo : B ≤ b

set_option maxHeartbeats 4000000 in
set_option maxRecDepth 100000 in
theorem pealOpens_any (cuts : Nat) (hc : cuts < 256) (keep : Int) (w : World) (hG : GlobErr w) :
    Calls Tryd.prog 4 #[.int .u8 cuts, .int .i64 keep] w fun e w' => e = .returned (.bool true) ∧ Below w.heap.size w w' := by
  have hw0 := hG.pos
  have hc1 : ((cuts : Nat) : Int) < 256 := by omega
  have HON := Lib.hid (open_nil w)
  have hz := zeroDisk_cell w
  have HOZ := Lib.hid (open_not hz)
  have HLv := Lib.hid (fun w1 (h : Below w.heap.size w w1) => lives_any w1 (hG.upd (Upd.of_below h []) hw0 (by simp)))
  have HGu := Lib.hid (fun w1 (h : Below w.heap.size w w1) => hG.upd (Upd.of_below h []) hw0 (by simp))
  clear hG hz
  go_enter Tryd.func4, Tryd.ntmps4
  go_wp2_with fail
  refine HON.out.mono ?_
  rintro e w' ⟨rfl, rfl⟩
  go_wp2_with fail
  refine HOZ.out.mono ?_
  rintro e w1 ⟨rfl, hw1⟩
  have hb1 : Below w.heap.size w w1 := by rw [← hw1]; exact (Below.refl _ _).alloc (Nat.le_refl _) _
  have HB1 := Lib.hid hb1
  have HL1 := Lib.hid (HLv.out w1 hb1)
  clear hw1 hb1 HOZ HON HLv
  go_wp2_with fail
  refine HL1.out.mono ?_
  rintro e w2 ⟨rfl, hb2⟩
  have HB2 : Hid (Below w.heap.size w w2) := HB1.out.trans (hb2.mono HB1.out.size)
  clear hb2 HL1 HB1
  go_wp2_with fail
  refine (newDisk_any w2).mono ?_
  rintro e w3 ⟨rfl, hD3, hU3⟩
  have HA := Lib.hid (arm_any _ w3 _ ((cuts : Int) % 8) hD3)
  have HB3 : Hid (Below w.heap.size w w3) := HB2.out.trans (hU3.mono (B' := w.heap.size) (S' := []) HB2.out.size (by simp)).below
  clear hD3 hU3
  go_wp2_with fail
  refine HA.out.mono ?_
  rintro e w4 ⟨rfl, hD4, hU4⟩
  go_wp2_with fail
  obtain ⟨b, hb⟩ : ∃ b, b = w2.heap.size + 1 := ⟨_, rfl⟩
  rw [← hb] at hD4 hU4 ⊢
  have hbw : w.heap.size ≤ b := by have := HB2.out.size; omega
  have hm8 : max ((cuts : Int) % 8) 0 = (cuts : Int) % 8 := by omega
  rw [hm8] at hD4
  have HP0 : Hid (∃ s, PO w.heap.size w b 0 w4 s) := ⟨_, ⟨hD4, rfl, rfl, rfl, rfl, rfl, by show 0 ≤ (cuts : Int) % 8 ∧ (cuts : Int) % 8 ≤ 7; omega, by omega, HB3.out.trans (hU4.mono (B' := w.heap.size) (S' := []) HB3.out.size (by simp; omega)).below, hbw⟩⟩
  clear hD4 hU4 HB2 HB3 HA hm8 hb
  go_loopw [11] (fun i wr => ∃ k : Nat, k ≤ 2 ∧ i = .int .i64 k ∧ Hid (∃ s, PO w.heap.size w b k wr s)) (fun i _ => 3 - (intOf i).toNat)
  case atStart => exact ⟨0, by omega, rfl, HP0⟩
  case round =>
    obtain ⟨k, hk, rfl, HP⟩ := hrel
    obtain ⟨s, hP⟩ := HP.out
    have himg : Img s.bs (0, 0, 0) 0 0 [] := by rw [hP.bs]; exact Img.new
    obtain ⟨rs, hrs, hN⟩ := himg.newest (s := s)
    have hk3 : (k : Int) < 3 := by omega
    have hop := open_any b wr s hP.disk hP.down hP.left.1 (by have := hP.left.2; omega) (by have := hP.opened; omega) (by have := hP.opened; omega) rs hrs (0, 0, 0) 0 0 [] hN (by omega) (by omega) (by simp) (by simp) (HGu.out wr hP.bel)
    have HOp := Lib.hid hop
    have HPs := Lib.hid hP
    clear hop hP HP
    by_cases h1 : s.left = 1
    · have hk2 : ¬ k = 2 := fun e => by have := HPs.out.last e; omega
      go_wp2_with fail
      refine HOp.out.mono ?_
      rintro e w5 ⟨hx, -, hU5⟩
      obtain ⟨rfl, hD5⟩ := hx h1
      have hdn := down_any b w5 _ hD5
      have hact : s.act.down = true := by simp [Dk.act, h1]
      have hdn' : Calls Tryd.prog 19 #[.pointer (some ⟨b, 0, none⟩)] w5 fun e w' => e = .returned (.bool true) ∧ w5 = w' := by
        have h2 := hdn
        rw [show ({ s.act with opened := s.opened + 1 } : Dk).down = true from hact] at h2
        exact h2
      have hop2 := open_down b w5 _ hD5 hact
      have hrs5 := restart_clean b w5 _ keep hD5 (by have := HPs.out.sy; simp [Dk.act, h1, this]) (by have := HPs.out.turn; simp [Dk.act, h1, this]) (by have := HPs.out.turn; simp [Dk.act, h1, this]; omega)
      have hB5 : Below w.heap.size w w5 := HPs.out.bel.trans (hU5.mono (B' := w.heap.size) (S' := []) HPs.out.bel.size (by simp; exact hbw)).below
      have HDn := Lib.hid hdn'
      have HO2 := Lib.hid hop2
      have HR5 := Lib.hid hrs5
      have HB5 := Lib.hid hB5
      have HA5 : Hid (s.act.turn = k ∧ s.opened = k ∧ s.act.bs = zs) := ⟨by have := HPs.out.turn; simp [Dk.act, h1, this], HPs.out.opened, by have := HPs.out.bs; simp [Dk.act, h1, this]⟩
      clear hx hD5 hdn hdn' hop2 hrs5 hB5 hU5 hact HOp h1 himg hN hrs
      by_cases hk0 : k = 0
      · subst hk0
        go_wp2_with (first | (go_at_call 19; refine HDn.out.mono ?_; rintro e w' ⟨rfl, rfl⟩) | (go_at_call 16; refine HO2.out.mono ?_; rintro e w' ⟨rfl, rfl⟩) | (go_at_call 25; refine HR5.out.mono ?_; rintro e w6 ⟨rfl, bm6, hbm6, hD6, hU6⟩))
        have hB6 : Below w.heap.size w w6 := HB5.out.trans (hU6.mono (B' := w.heap.size) (S' := []) HB5.out.size (by simp; exact hbw)).below
        have HA6 := Lib.hid (arm_any b w6 _ ((cuts : Int) / 8 % 8) hD6)
        have HB6 := Lib.hid hB6
        clear hD6 hU6 hB6
        refine HA6.out.mono ?_
        rintro e w7 ⟨rfl, hD7, hU7⟩
        have hm8 : max ((cuts : Int) / 8 % 8) 0 = (cuts : Int) / 8 % 8 := by omega
        rw [hm8] at hD7
        have HP7 : Hid (∃ s, PO w.heap.size w b (0 + 1) w7 s) := ⟨_, ⟨hD7, rfl, rfl, HA5.out.2.2, by show s.act.turn + 1 = _; have := HA5.out.1; omega, by show s.opened + 1 = _; have := HA5.out.2.1; omega, by show 0 ≤ (cuts : Int) / 8 % 8 ∧ (cuts : Int) / 8 % 8 ≤ 7; omega, by omega, HB6.out.trans (hU7.mono (B' := w.heap.size) (S' := []) HB6.out.size (by simp; exact hbw)).below, hbw⟩⟩
        clear hD7 hU7 hm8 HA6
        go_wp2
        go_roundw
        case rel => exact ⟨0 + 1, by omega, by go_num, HP7⟩
        case measure => simp [intOf]
      · have hk1 : k ≤ 1 := by omega
        have hkn : ((k : Int) == 0) = false := by simp; omega
        go_wp2_with (first | (go_at_call 19; refine HDn.out.mono ?_; rintro e w' ⟨rfl, rfl⟩) | (go_at_call 16; refine HO2.out.mono ?_; rintro e w' ⟨rfl, rfl⟩) | (go_at_call 25; refine HR5.out.mono ?_; rintro e w6 ⟨rfl, bm6, hbm6, hD6, hU6⟩))
        have HP7 : Hid (∃ s, PO w.heap.size w b (k + 1) w6 s) := ⟨_, ⟨hD6, rfl, rfl, HA5.out.2.2, by show s.act.turn + 1 = _; have := HA5.out.1; omega, by show s.opened + 1 = _; have := HA5.out.2.1; omega, by show (0 : Int) ≤ 0 ∧ (0 : Int) ≤ 7; omega, fun _ => rfl, HB5.out.trans (hU6.mono (B' := w.heap.size) (S' := []) HB5.out.size (by simp; exact hbw)).below, hbw⟩⟩
        clear hD6 hU6
        go_wp2
        go_roundw
        case rel => exact ⟨k + 1, by omega, by go_num, HP7⟩
        case measure => simp [intOf]; omega
    · go_wp2_with fail
      refine HOp.out.mono ?_
      rintro e w5 ⟨-, hx, hU5⟩
      obtain ⟨p, bm5, v5, rfl, hp5, hbm5, hD5, hL5, hown5⟩ := hx h1
      have hact : s.act.down = false := by
        have := HPs.out.down
        unfold Dk.act
        split
        · exact this
        · exact this
      have hdn' : Calls Tryd.prog 19 #[.pointer (some ⟨b, 0, none⟩)] w5 fun e w' => e = .returned (.bool false) ∧ w5 = w' := by
        have h2 := down_any b w5 _ hD5
        rw [show ({ s.act with opened := s.opened + 1, bm := bm5, sy := [] } : Dk).down = false from hact] at h2
        exact h2
      have HDn := Lib.hid hdn'
      have HAr := Lib.hid (arm_any b w5 _ 0 hD5)
      have hne5 := list_disk_ne hL5 hD5
      have hrow5 := fun g => @row_disk_ne _ _ _ _ _ _ hL5 hD5 g
      have HR5 := Lib.hid hrow5
      clear hrow5
      have HL5 := Lib.hid hL5
      have HU5 := Lib.hid hU5
      clear hdn' hD5 hL5 hU5 hx HOp himg hN hrs
      go_wp2_with (first | (go_at_call 19; refine HDn.out.mono ?_; rintro e w' ⟨rfl, rfl⟩))
      refine HAr.out.mono ?_
      rintro e w6 ⟨rfl, hD6, hU6⟩
      go_wp2_with fail
      have hU5s := HU5.out.size
      have hB5 : Below w.heap.size w w5 := HPs.out.bel.trans (HU5.out.mono (B' := w.heap.size) (S' := []) HPs.out.bel.size (by simp; exact hbw)).below
      have hB6 : Below w.heap.size w w6 := hB5.trans (hU6.mono (B' := w.heap.size) (S' := []) hB5.size (by simp; exact hbw)).below
      have hactt : s.act.turn = k ∧ s.act.bs = zs ∧ s.act.turn = s.turn := by
        have e1 := HPs.out.turn
        have e2 := HPs.out.bs
        unfold Dk.act
        by_cases hp : s.left > 0
        · rw [if_pos hp, if_neg h1]; exact ⟨e1, e2, rfl⟩
        · rw [if_neg hp]; exact ⟨e1, e2, rfl⟩
      have hopn := HPs.out.opened
      have hL6 := HL5.out.keepO hU6 (Nat.le_refl _) (by simp; exact hne5.1) (by simp; exact fun e => (HR5.out _ e).1 rfl)
      have hG6 : G w6 b p { s.act with opened := s.opened + 1, bm := bm5, sy := [], left := max 0 0 } { broken := false, turn := s.turn, opened := s.opened + 1, root := (0, 0, 0), dirty := false, last := 0, mark := 0, texts := v5 } [] 5 x0 := by
        refine ⟨⟨hD6, rfl, hact, rfl, ?_, ⟨by simp, by simp, by simp, by simp, by simp⟩, Nat.zero_le _, ⟨?_, ?_⟩, ⟨?_, ?_⟩, by omega⟩, hL6, ?_, ⟨by simp [Ls.st], by simp [Ls.st], by simp [Ls.st], by simp [Ls.st], by simp [Ls.st]⟩, fun _ => rfl⟩
        · show Img s.act.bs _ _ _ _
          rw [hactt.2.1]; exact Img.new
        · show 0 ≤ s.act.turn; omega
        · show s.act.turn ≤ _; omega
        · show 0 ≤ s.opened + 1; omega
        · show s.opened + 1 ≤ _; omega
        · have h4 : s.turn = s.act.turn := hactt.2.2.symm
          simp [Ls.works, h4]
      have hst := state_any p b w6 _ [] hG6.list (by simp) (by simp) (by simp)
      have HG6 := Lib.hid hG6
      have HB6 := Lib.hid hB6
      have HSt := Lib.hid hst
      have hrr : ∀ g, v5.ownBlock = some g → w.heap.size ≤ g := fun g hg => by have := (hown5.lt g hg).1; have := HPs.out.bel.size; omega
      have hv5l : ∀ g, v5.ownBlock = some g → g < w6.heap.size := fun g hg => (hG6.list.own.lt g hg).2
      have hp6 : p < w6.heap.size := hG6.list.lt
      have hpw : w.heap.size ≤ p := by have := HPs.out.bel.size; omega
      have hbmw : w.heap.size ≤ bm5 := by have := HPs.out.bel.size; omega
      clear hst hG6 hL6 hB5 hB6 hactt hopn hD6 hU6 hown5 HL5 HU5 HR5 hact HDn HAr
      go_wp2_with fail
      refine HSt.out.mono ?_
      rintro e w7 ⟨v7, rfl, hown7, hb7⟩
      obtain ⟨a7, c7, rfl⟩ := own_form hown7
      have hG7 := HG6.out.keep (Upd.of_below hb7 []) (Nat.le_refl _) (by simp) (by simp) (by simp) (by simp)
      have HB7 : Hid (Below w.heap.size w w7) := HB6.out.trans (hb7.mono HB6.out.size)
      have hG8 := hG7.keep ((Upd.refl w7.heap.size [] w7).alloc (Nat.le_refl _) (.cells #[.int .i64 0, .slice a7 0 c7, .int .i64 0] 53)) (Nat.le_refl _) (by simp) (by simp) (by simp) (by simp)
      have HAd := Lib.hid (hG8.add (⟨#[107]⟩ : ByteArray) (by decide) (by omega))
      have HB67 := Lib.hid hb7
      clear hown7 hb7 hG7 hG8 HSt HG6 HB6
      go_wp2_with fail
      refine HAd.out.mono ?_
      rintro e w8 ⟨rfl, v8, hG8, hv8, hU8⟩
      have hp7 : p < w7.heap.size := by have := HB67.out.size; omega
      have hrow7 : ∀ g, v5.ownBlock = some g → g < w7.heap.size := fun g hg => by
        have := hv5l g hg
        have := HB67.out.size
        omega
      have hs8 : w8.heap[w7.heap.size]? = some (.cells [.int .i64 0, .slice a7 0 c7, .int .i64 0].toArray 53) := by
        rw [hU8.block w7.heap.size (by simp) (by
          intro hx
          rcases List.mem_cons.1 hx with hx | hx
          · omega
          · have := hrow7 _ (by simpa using hx); omega)]
        exact alloc_new _ rfl
      have c0 : w8.cell? ⟨w7.heap.size, 0, none⟩ = some (.int .i64 0) := by rw [cell_of_heap hs8]; rfl
      have c1 : w8.cell? ⟨w7.heap.size, 1, none⟩ = some (.slice a7 0 c7) := by rw [cell_of_heap hs8]; rfl
      have c2 : w8.cell? ⟨w7.heap.size, 2, none⟩ = some (.int .i64 0) := by rw [cell_of_heap hs8]; rfl
      have hsm : Calls Tryd.prog 21 #[.agg #[.int .i64 0, .slice a7 0 c7, .int .i64 0], .agg #[.int .i64 0, .slice none 0 0, .int .i64 0]] w8 fun e w' => e = .returned (.bool true) ∧ Below w8.heap.size w8 w' :=
        same_any w8 0 0 (.slice a7 0 c7) (.slice none 0 0) [] ⟨a7, c7, rfl, by simp, by simp⟩ ⟨none, 0, rfl, by simp, by simp⟩ (by simp)
      have HSm := Lib.hid hsm
      have HG8 := Lib.hid hG8
      have HB8 : Hid (Below w.heap.size w w8) := by
        refine (HB7.out.alloc HB7.out.size (.cells #[.int .i64 0, .slice a7 0 c7, .int .i64 0] 53)).trans (hU8.mono (B' := w.heap.size) (S' := []) (by have := HB7.out.size; simp; omega) ?_).below
        intro x hx
        rcases List.mem_cons.1 hx with rfl | hx
        · exact .inr hpw
        · exact .inr (hrr x (by simpa using hx))
      clear hs8 hsm hU8 hG8 HAd
      go_wp2_with fail
      refine HSm.out.mono ?_
      rintro e w9 ⟨rfl, hb9⟩
      have hG9 := HG8.out.keep (Upd.of_below hb9 []) (Nat.le_refl _) (by simp) (by simp) (by simp) (by simp)
      have HB9 : Hid (Below w.heap.size w w9) := HB8.out.trans (hb9.mono HB8.out.size)
      have HBr := Lib.hid (broken_any p b w9 _ _ hG9.list)
      have HDk := Lib.hid (disk_any p b w9 _ _ hG9.list)
      have HSy := Lib.hid (hG9.sync (by omega))
      have heq := eql29 b w9
      clear hG9 hb9 HG8 HSm
      go_wp2_with (first | (go_at_call 22; refine HBr.out.mono ?_; rintro e w' ⟨rfl, rfl⟩) | (go_at_call 23; refine HDk.out.mono ?_; rintro e w' ⟨rfl, rfl⟩))
      refine HSy.out.mono ?_
      rintro e w10 ⟨rfl, bs10, bm10, r10, hbm10, hG10, hU10⟩
      have HB10 : Hid (Below w.heap.size w w10) := HB9.out.trans (hU10.mono (B' := w.heap.size) (S' := []) HB9.out.size (by
        intro x hx
        simp at hx
        rcases hx with rfl | rfl | rfl
        · exact .inr hpw
        · exact .inr hbw
        · exact .inr hbmw)).below
      clear hG10 hU10 hbm10
      go_wp2_with fail
      go_ret
      exact ⟨rfl, HB10.out⟩
end Go.Proofs.YtgjjcbcmjbnfnaaDoor
