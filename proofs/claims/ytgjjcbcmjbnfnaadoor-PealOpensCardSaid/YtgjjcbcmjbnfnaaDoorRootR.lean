/- The walks of what finds the newest root; no statement of the seat is proved here. -/
import Derived.Test.YtgjjcbcmjbnfnaaDoorRead
import Derived.BigQuiet
import Derived.WalkSmall
namespace Go.Proofs.YtgjjcbcmjbnfnaaDoor
open Go.RowKit

theorem start_any (n : Int) (w : World) (h0 : 0 ≤ n) (h1 : n < 1000) : Calls Tryd.prog 64 #[.int .i64 n] w fun e w' => e = .returned (.int .i64 (2 + n * 15)) ∧ w = w' := by
  go_enter Tryd.func64, Tryd.ntmps64
  go_wp2
  go_ret
  exact ⟨by go_num, rfl⟩

theorem cmp_any (w : World) (a b c x y z : Int) (ha : 0 ≤ a ∧ a < 4611686018427387904) (hx : 0 ≤ x ∧ x < 4611686018427387904) :
    Calls Tryd.prog 63 #[.agg #[.int .i64 a, .int .i64 b, .int .i64 c], .agg #[.int .i64 x, .int .i64 y, .int .i64 z]] w fun e w' => e = .returned (.int .i64 (a - x)) ∧ Below w.heap.size w w' := by
  go_enter Tryd.func63, Tryd.ntmps63
  go_wp2
  go_ret
  exact ⟨by go_num, ((Below.refl _ _).alloc (Nat.le_refl _) _).alloc (by simp) _⟩

theorem nonzero_any (w : World) : Calls Tryd.prog 80 #[.int .u8 0] w fun e w' => e = .returned (.bool false) ∧ w = w' := by
  go_enter Tryd.func80, Tryd.ntmps80
  go_wp2
  go_ret
  exact ⟨rfl, rfl⟩

set_option maxHeartbeats 400000 in
set_option maxRecDepth 10000 in
theorem index_any (w : World) (g o n cap : Nat) (hn : n ≤ 1000000) (hnc : n ≤ cap) (hc : ∀ j, j < n → w.cell? ⟨g, o + j, none⟩ = some (.int .u8 0)) :
    Calls Tryd.prog 90 #[.slice (some ⟨g, o, none⟩) n cap, .func (.func 80) #[] #[]] w fun e w' => e = .returned (.int .i64 (-1)) ∧ w = w' := by
  have HC := Lib.hid hc
  clear hc
  go_enter Tryd.func90, Tryd.ntmps90
  go_wp2
  go_loop [8] (fun i => ∃ k : Nat, k ≤ n ∧ i = .int .i64 k)
    (fun i => n - (intOf i).toNat)
  case atStart => exact ⟨0, by omega, rfl⟩
  case round =>
    obtain ⟨k, hk, rfl⟩ := hrel
    by_cases hlt : k < n
    · have c0 := HC.out k hlt
      go_wp2_with (go_at_call 80; refine (nonzero_any w).mono ?_; rintro e w1 ⟨rfl, rfl⟩)
      go_round
      case rel => exact ⟨k + 1, by omega, by go_num⟩
      case measure => simp [intOf]; omega
    · have hk6 : k = n := by omega
      subst hk6
      go_wp2
      go_ret
      exact ⟨rfl, rfl⟩

theorem contains_any (w : World) (g o n cap : Nat) (hn : n ≤ 1000000) (hnc : n ≤ cap) (hc : ∀ j, j < n → w.cell? ⟨g, o + j, none⟩ = some (.int .u8 0)) :
    Calls Tryd.prog 79 #[.slice (some ⟨g, o, none⟩) n cap, .func (.func 80) #[] #[]] w fun e w' => e = .returned (.bool false) ∧ w = w' := by
  have HC := Lib.hid hc
  clear hc
  go_enter Tryd.func79, Tryd.ntmps79
  go_wp2_with (go_at_call 90; refine (index_any w g o n cap hn hnc HC.out).mono ?_; rintro e w1 ⟨rfl, rfl⟩)
  go_ret
  exact ⟨rfl, rfl⟩

set_option maxHeartbeats 400000 in
set_option maxRecDepth 10000 in
theorem torn_any (w : World) (g cap : Nat) (hnc : 128 ≤ cap) (hc : ∀ j, j < 128 → w.cell? ⟨g, j, none⟩ = some (.int .u8 0)) :
    Calls Tryd.prog 61 #[.slice (some ⟨g, 0, none⟩) 128 cap] w fun e w' => e = .returned (.bool true) ∧ Below w.heap.size w w' := by
  have c0 := hc 0 (by omega)
  have HC := Lib.hid hc
  clear hc
  go_enter Tryd.func61, Tryd.ntmps61
  go_wp2
  go_loopw [4] (fun i wr => i = .int .i64 0 ∧ wr = w) (fun _ _ => 0)
  case atStart => exact ⟨rfl, rfl⟩
  case round =>
    obtain ⟨rfl, rfl⟩ := hrel
    have hb : ∀ n, Below wr.heap.size wr (wr.drewN n) := fun n => ⟨rfl, rfl, rfl, Nat.le_refl _, fun _ _ => rfl⟩
    have hz : ∀ n j, j < 128 → (wr.drewN n).cell? ⟨g, 0 + j, none⟩ = some (.int .u8 0) := fun n j hj => by rw [Nat.zero_add]; exact HC.out j hj
    have hne : ((0 : Int) != ↑(({ data := #[80, 69, 65, 76] } : ByteArray)[0]).toNat) = true := by decide
    have HB := Lib.hid hb
    have HZ := Lib.hid hz
    clear hb hz
    go_wp2_with fail
    go_quiet (fail)
    clear c0 HC hne
    go_wp2_with (go_at_call 79; refine (contains_any _ g 0 128 cap (by omega) hnc (HZ.out _)).mono ?_; rintro e w1 ⟨rfl, rfl⟩)
    go_ret
    exact ⟨rfl, HB.out _⟩

/-! ### two slices of bytes compared -/

theorem bv_ne (a b : UInt8) : ((a.toNat : Int) != (b.toNat : Int)) = true ↔ a ≠ b := by
  rw [bne_iff_ne]
  exact ⟨fun h e => h (by rw [e]), fun h e => h (UInt8.toNat_inj.1 (by omega))⟩

set_option maxHeartbeats 400000 in
set_option maxRecDepth 10000 in
theorem equal_any (w : World) (g o n cap g2 o2 cap2 : Nat) (l l2 : List UInt8) (h : SlB w g o cap l) (h2 : SlB w g2 o2 cap2 l2) (hn : l.length = n) (hn2 : l2.length = n) (hb : n ≤ 1000000) :
    Calls Tryd.prog 78 #[.slice (some ⟨g, o, none⟩) n cap, .slice (some ⟨g2, o2, none⟩) n cap2] w fun e w' => e = .returned (.bool (decide (l = l2))) ∧ Hid (∃ m, w' = w.drewN m) := by
  have H := Lib.hid h
  have H2 := Lib.hid h2
  have HN := Lib.hid hn
  have HN2 := Lib.hid hn2
  clear h h2 hn hn2
  go_enter Tryd.func78, Tryd.ntmps78
  go_wp2
  go_loopw [13] (fun i wr => ∃ k : Nat, k ≤ n ∧ i = .int .i64 k ∧ Hid (∃ m, wr = w.drewN m) ∧ Hid (l.take k = l2.take k))
    (fun i _ => n - (intOf i).toNat)
  case atStart => exact ⟨0, by omega, rfl, ⟨0, rfl⟩, by simp [Hid]⟩
  case round =>
    obtain ⟨k, hk, rfl, hwr, he⟩ := hrel
    obtain ⟨m, rfl⟩ := hwr.out
    by_cases hlt : k < n
    · have hk1 : k < l.length := by have := HN.out; omega
      have hk2 : k < l2.length := by have := HN2.out; omega
      have c1 : w.cell? ⟨g, o + k, none⟩ = some (.int .u8 (l[k].toNat : Int)) := by
        exact H.out.2 k (bv l[k]) (by rw [bvs_getElem?]; simp [hk1])
      have c2 : w.cell? ⟨g2, o2 + k, none⟩ = some (.int .u8 (l2[k].toNat : Int)) := by
        exact H2.out.2 k (bv l2[k]) (by rw [bvs_getElem?]; simp [hk2])
      have hcap := H.out.1
      have hcap2 := H2.out.1
      have hn1 := HN.out
      have hn2 := HN2.out
      obtain ⟨x, hx⟩ : ∃ x : Int, x = (l[k].toNat : Int) := ⟨_, rfl⟩
      obtain ⟨y, hy⟩ : ∃ y : Int, y = (l2[k].toNat : Int) := ⟨_, rfl⟩
      rw [← hx] at c1
      rw [← hy] at c2
      have HX := Lib.hid hx
      have HY := Lib.hid hy
      clear hx hy hn1 hn2
      go_wp2_with fail
      go_quiet (fail)
      go_wp2
      · have hxy : ¬ x = y := by simpa using ‹(x != y) = true›
        go_ret
        refine ⟨?_, m + nq, by simp⟩
        have : l ≠ l2 := fun e => hxy (by rw [HX.out, HY.out]; simp [e])
        simp [this]
      · have hxy : x = y := by simpa using ‹(x != y) = false›
        go_roundw
        case rel => exact ⟨k + 1, by omega, by go_num, ⟨m + nq, by simp⟩, by
            have e1 : l[k] = l2[k] := UInt8.toNat_inj.1 (by have := HX.out; have := HY.out; omega)
            show l.take (k + 1) = l2.take (k + 1)
            rw [List.take_succ_eq_append_getElem hk1, List.take_succ_eq_append_getElem hk2, he.out, e1]⟩
        case measure => simp [intOf]; omega
    · have hk6 : k = n := by omega
      subst hk6
      go_wp2
      go_ret
      refine ⟨?_, hwr⟩
      have h1 := he.out
      rw [List.take_of_length_le (by have := HN.out; omega), List.take_of_length_le (by have := HN2.out; omega)] at h1
      simp [h1]

/-! ### the root of an image -/

theorem SlB.of_own {w : World} {base g n cap : Nat} {l : List UInt8} (h : w.ownsRow base 5 1 (.slice (some ⟨g, 0, none⟩) n cap) n (bvs l)) : SlB w g 0 cap l ∧ base ≤ g ∧ l.length = n := by
  have hn : l.length = n := by simpa using h.1
  rcases h.2 with ⟨h0, _⟩ | ⟨g', cap', cur, hv, hb, hg, hnc, hcm, hcs, ht⟩
  · cases h0
  · cases hv
    refine ⟨⟨by omega, fun j u hu => ?_⟩, hb, hn⟩
    have := h.cells (g := g) rfl j u hu
    rw [add_addr] at this
    exact this

theorem SlB.drop {w : World} {g o cap : Nat} {l : List UInt8} (h : SlB w g o cap l) (n : Nat) : SlB w g (o + n) (cap - n) (l.drop n) := by
  refine ⟨by have := h.1; simp; omega, fun j u hj => ?_⟩
  have hj1 : (bvs l)[n + j]? = some u := by rw [bvs_drop, List.getElem?_drop] at hj; exact hj
  rw [Nat.add_assoc]; exact h.2 _ _ hj1
theorem SlB.take {w : World} {g o cap : Nat} {l : List UInt8} (h : SlB w g o cap l) (n : Nat) : SlB w g o cap (l.take n) := by
  refine ⟨by have := h.1; simp; omega, fun j u hj => ?_⟩
  rw [bvs_take, List.getElem?_take] at hj
  split at hj
  · exact h.2 _ _ hj
  · cases hj

/-- The numbers of a root in a block. -/
theorem res_ct {fn : Func} {p u : Tmp} {ty : TypeId} (h : fn.results = #[.cell p ty, .tmp u]) (tmps : Array Value) (w : World) (g : Nat) (cs : List Value)
    (hp : tmps[p]?.getD undef = .pointer (some ⟨g, 0, none⟩)) (hl : (loadVar ty ⟨g, 0, none⟩).run Tryd.prog w = .ok (.agg cs.toArray) w) :
    (results fn tmps).run Tryd.prog w = .ok (.tuple #[.agg cs.toArray, tmps.getD u undef]) w := by
  simp [results, h, hp, asAddr, hl]
theorem res_cct {fn : Func} {p q u : Tmp} {ty ty' : TypeId} (h : fn.results = #[.cell p ty, .cell q ty', .tmp u]) (tmps : Array Value) (w : World) (g g' : Nat) (cs cs' : List Value)
    (hp : tmps[p]?.getD undef = .pointer (some ⟨g, 0, none⟩)) (hl : (loadVar ty ⟨g, 0, none⟩).run Tryd.prog w = .ok (.agg cs.toArray) w)
    (hq : tmps[q]?.getD undef = .pointer (some ⟨g', 0, none⟩)) (hl' : (loadVar ty' ⟨g', 0, none⟩).run Tryd.prog w = .ok (.agg cs'.toArray) w) :
    (results fn tmps).run Tryd.prog w = .ok (.tuple #[.agg cs.toArray, .agg cs'.toArray, tmps.getD u undef]) w := by
  simp [results, h, hp, hq, asAddr, hl, hl']
theorem load89 {w : World} {g : Nat} {t : TypeId} {a b c : Value} (h : w.heap[g]? = some (.cells [a, b, c].toArray t)) : (loadVar 89 ⟨g, 0, none⟩).run Tryd.prog w = .ok (.agg [a, b, c].toArray) w :=
  run_loadVar_row w g t 89 _ _ _ h Tryd.underlying89 rfl (by kernel_rfl)
theorem load91 {w : World} {g : Nat} {t : TypeId} {a b c : Value} (h : w.heap[g]? = some (.cells [a, b, c].toArray t)) : (loadVar 91 ⟨g, 0, none⟩).run Tryd.prog w = .ok (.agg [a, b, c].toArray) w :=
  run_loadVar_row w g t 91 _ _ _ h Tryd.underlying91 rfl (by kernel_rfl)

def RtS (g cap g6 cap6 : Nat) (l r : List UInt8) (w : World) : Prop := SlB w g 0 cap l ∧ SlB w g6 0 cap6 r
theorem RtS.drewN {g cap g6 cap6 : Nat} {l r : List UInt8} {w : World} (h : RtS g cap g6 cap6 l r w) (m : Nat) : RtS g cap g6 cap6 l r (w.drewN m) := h
theorem RtS.setCell {g cap g6 cap6 : Nat} {l r : List UInt8} {w : World} (h : RtS g cap g6 cap6 l r w) (b i : Nat) (u : Value) (h1 : g ≠ b) (h2 : g6 ≠ b) : RtS g cap g6 cap6 l r (w.setCell ⟨b, i, none⟩ u) :=
  ⟨⟨h.1.1, fun j v hj => by rw [World.cell?_of_block (w := w) (Below.heap_setCell _ _ _ _ (fun e => h1 e))]; exact h.1.2 j v hj⟩,
   ⟨h.2.1, fun j v hj => by rw [World.cell?_of_block (w := w) (Below.heap_setCell _ _ _ _ (fun e => h2 e))]; exact h.2.2 j v hj⟩⟩

def rno (l : List UInt8) : Nat := rnum ((l.drop 4).take 6)
def rsz (l : List UInt8) : Nat := rnum ((l.drop 10).take 6)
def rsm (l : List UInt8) : Nat := rnum ((l.drop 16).take 6)
theorem rnum_lt6 (l : List UInt8) : rnum (l.take 6) < 281474976710656 := by
  have h := rnum_lt (l.take 6)
  have h2 : (256 : Nat) ^ (l.take 6).length ≤ 256 ^ 6 := Nat.pow_le_pow_right (by decide) (by simp; omega)
  omega

set_option maxHeartbeats 4000000 in
set_option maxRecDepth 100000 in
theorem rootAt_any (b : Nat) (w : World) (s : Dk) (hD : IsDisk w b s) (k : Int) (h0k : 0 ≤ k) (hk : k < 2) (hszb : rsz (blk s.bs k.toNat) ≤ 1920) :
    Calls Tryd.prog 60 #[.pointer (some ⟨b, 0, none⟩), .int .i64 k] w fun e w' => e = .returned (.tuple #[.agg #[.int .i64 (rno (blk s.bs k.toNat)), .int .i64 (rsz (blk s.bs k.toNat)), .int .i64 (rsm (blk s.bs k.toNat))],
      .bool (decide (0 < rno (blk s.bs k.toNat) ∧ rsz (blk s.bs k.toNat) ≤ 1920 ∧ rbytes (rno (blk s.bs k.toNat)) (rsz (blk s.bs k.toNat)) (rsm (blk s.bs k.toNat)) = (blk s.bs k.toNat).take 28))]) ∧ Below w.heap.size w w' := by
  have hlen : (blk s.bs k.toNat).length = 128 := blk_length hD.len (by omega)
  obtain ⟨l, hl⟩ : ∃ l, l = blk s.bs k.toNat := ⟨_, rfl⟩
  have h1 := rnum_lt6 (l.drop 4)
  have h2 := rnum_lt6 (l.drop 10)
  have h3 := rnum_lt6 (l.drop 16)
  have hcall := read_any b (w.alloc (.cells #[.int .i64 0, .int .i64 0, .int .i64 0] 89)) s (hD.alloc _) k h0k (by omega)
  rw [← hl] at hcall hlen hszb
  have HC := Lib.hid hcall
  clear hcall hD
  rw [← hl]
  clear hl
  go_enter Tryd.func60, Tryd.ntmps60
  go_wp2_with fail
  refine HC.out.mono ?_
  rintro e w1 ⟨v, rfl, hown, hU, _⟩
  obtain ⟨g, cap, rfl⟩ := own_succ hown
  obtain ⟨hS, hg, hlen2⟩ := SlB.of_own hown
  have hcap := hS.1
  have hc4 : ¬ cap = 4 := by omega
  clear HC hlen2 hown
  go_wp2_with fail
  have hgw : g < w1.heap.size := World.block_lt_of_cell? w1 ⟨g, 0 + 0, none⟩ (hS.2 0 (bv (l[0]?.getD 0)) (by rw [bvs_getElem?]; simp [show 0 < l.length by omega]))
  have hb1 : Below w.heap.size w w1 := ((Below.refl _ _).alloc (Nat.le_refl _) _).trans (hU.mono (B' := w.heap.size) (S' := []) (by simp) (by simp)).below
  have hz1 : w.heap.size < w1.heap.size := by have := hU.size; simp at this; omega
  have hR0 : Rdr (w1.alloc (.cells #[.slice (some ⟨g, 4, none⟩) 124 (cap - 4)] 134)) w1.heap.size g 4 (cap - 4) (l.drop 4) := by
    refine ⟨?_, (hS.below ((Below.refl w1.heap.size w1).alloc (Nat.le_refl _) _) hgw).drop 4⟩
    rw [alloc_new _ rfl, List.length_drop, hlen]
  obtain ⟨w2, hw2⟩ : ∃ w2, w2 = w1.alloc (.cells #[.slice (some ⟨g, 4, none⟩) 124 (cap - 4)] 134) := ⟨_, rfl⟩
  rw [← hw2] at hR0 ⊢
  have hz2 : w2.heap.size = w1.heap.size + 1 := by rw [hw2]; simp
  have hb2 : Below w1.heap.size w1 w2 := by rw [hw2]; exact (Below.refl _ _).alloc (Nat.le_refl _) _
  have HS := Lib.hid hS
  have HU := Lib.hid hU
  have HB1 := Lib.hid hb1
  have HB2 := Lib.hid hb2
  have HZ2 := Lib.hid hz2
  clear hw2 hS hU hb1 hb2 hz2
  refine (rnumber_any w2 w1.heap.size g 4 (cap - 4) _ (by simp [hlen]) hR0 (by omega)).mono ?_
  rintro e w3 ⟨rfl, ⟨o3, hR3⟩, hU3⟩
  clear hR0
  go_wp2_with fail
  refine (rnumber_any w3 w1.heap.size g o3 _ _ (by simp [hlen]) hR3 (by omega)).mono ?_
  rintro e w4 ⟨rfl, ⟨o4, hR4⟩, hU4⟩
  clear hR3
  go_wp2_with fail
  refine (rnumber_any w4 w1.heap.size g o4 _ _ (by simp [hlen]) hR4 (by omega)).mono ?_
  rintro e w5 ⟨rfl, ⟨o5, hR5⟩, hU5⟩
  clear hR4 hR5
  have hU : Hid (Upd w2.heap.size [w1.heap.size] w2 w5) := (hU3.trans (hU4.mono hU3.size (by simp))).trans (hU5.mono (Nat.le_trans hU3.size hU4.size) (by simp))
  clear hU3 hU4 hU5
  go_wp2_with fail
  obtain ⟨no, hno⟩ : ∃ no, no = rnum ((l.drop 4).take 6) := ⟨_, rfl⟩
  obtain ⟨sz, hsz⟩ : ∃ sz, sz = rnum ((l.drop 10).take 6) := ⟨_, rfl⟩
  obtain ⟨sm, hsm⟩ : ∃ sm, sm = rnum ((l.drop 16).take 6) := ⟨_, rfl⟩
  rw [← hno, ← hsz, ← hsm]
  rw [← hno] at h1
  rw [← hsz] at h2
  rw [← hsm] at h3
  have hs0 : sz ≤ 1920 := by rw [hsz]; exact hszb
  clear hszb
  have HNO := Lib.hid hno
  have HSZ := Lib.hid hsz
  have HSM := Lib.hid hsm
  clear hno hsz hsm
  refine (rwritten_any _ no sz sm (by omega) (by omega) (by omega)).mono ?_
  rintro e w6 ⟨v6, rfl, hown6, hb6, -⟩
  obtain ⟨g6, cap6, rfl⟩ := own_succ hown6
  obtain ⟨hS6, hg6, -⟩ := SlB.of_own hown6
  have k0 : w6.cell? ⟨w5.heap.size, 0, none⟩ = some (.int .i64 no) := by rw [hb6.cell (p := ⟨w5.heap.size, 0, none⟩) (by simp)]; simp
  have k1 : w6.cell? ⟨w5.heap.size, 1, none⟩ = some (.int .i64 sz) := by rw [hb6.cell (p := ⟨w5.heap.size, 1, none⟩) (by simp)]; simp
  have k2 : w6.cell? ⟨w5.heap.size, 2, none⟩ = some (.int .i64 sm) := by rw [hb6.cell (p := ⟨w5.heap.size, 2, none⟩) (by simp)]; simp
  have hz5 : w1.heap.size + 1 ≤ w5.heap.size := by have := hU.out.size; have := HZ2.out; omega
  have hz6 : w5.heap.size + 1 ≤ w6.heap.size := by have := hb6.size; simpa using this
  have hU6 : Upd w1.heap.size [] w1 w6 := by
    refine (Upd.of_below HB2.out []).trans ((hU.out.mono (B' := w1.heap.size) (S' := []) (by have := HZ2.out; omega) (by simp)).trans (Upd.of_below ((((Below.refl w5.heap.size w5).alloc (Nat.le_refl _) _).trans (hb6.mono (by simp))).mono (by omega)) []))
  have hSl : SlB w6 g 0 cap l := HS.out.below hU6.below hgw
  have hbw : Below w.heap.size w w6 := HB1.out.trans (hU6.below.mono (by omega))
  have hj : w6.heap[w.heap.size]? = some (.cells [.int .i64 0, .int .i64 0, .int .i64 0].toArray 89) := by
    rw [hU6.block _ hz1 (by simp), HU.out.block _ (by simp) (by simp), alloc_new _ rfl]
  have j0 : w6.cell? ⟨w.heap.size, 0, none⟩ = some (.int .i64 0) := by rw [cell_of_heap hj]; rfl
  have j1 : w6.cell? ⟨w.heap.size, 1, none⟩ = some (.int .i64 0) := by rw [cell_of_heap hj]; rfl
  have j2 : w6.cell? ⟨w.heap.size, 2, none⟩ = some (.int .i64 0) := by rw [cell_of_heap hj]; rfl
  have f0 : w6.frozen? ⟨w.heap.size, 0, none⟩ = false := frozen_of_heap hj
  have f1 : w6.frozen? ⟨w.heap.size, 1, none⟩ = false := frozen_of_heap hj
  have f2 : w6.frozen? ⟨w.heap.size, 2, none⟩ = false := frozen_of_heap hj
  have HSl : Hid (RtS g cap g6 cap6 l (rbytes no sz sm) w6) := ⟨hSl, hS6⟩
  have hgne : g ≠ w.heap.size := by simp at hg; omega
  have hg6ne : g6 ≠ w.heap.size := by simp at hg6; omega
  have HBw := Lib.hid hbw
  let S : World → Prop := fun w' => (w'.cell? ⟨w5.heap.size, 0, none⟩ = some (.int .i64 no) ∧ w'.cell? ⟨w5.heap.size, 1, none⟩ = some (.int .i64 sz) ∧ w'.cell? ⟨w5.heap.size, 2, none⟩ = some (.int .i64 sm)) ∧ Hid (RtS g cap g6 cap6 l (rbytes no sz sm) w')
  have HK0 : Hid (S w6.drew) := ⟨⟨k0, k1, k2⟩, HSl⟩
  have HKd : Hid (∀ m, S (w6.drew.drewN m)) := fun m => ⟨⟨k0, k1, k2⟩, HSl⟩
  have HKs : Hid (∀ (W : World) x0 x1 x2, S W → S (((W.setCell ⟨w.heap.size, 0, none⟩ x0).setCell ⟨w.heap.size, 1, none⟩ x1).setCell ⟨w.heap.size, 2, none⟩ x2)) := by
    intro W x0 x1 x2 h
    have hne : w.heap.size ≠ w5.heap.size := by omega
    refine ⟨?_, ((h.2.out.setCell _ _ _ hgne hg6ne).setCell _ _ _ hgne hg6ne).setCell _ _ _ hgne hg6ne⟩
    have e : ∀ i, (((W.setCell ⟨w.heap.size, 0, none⟩ x0).setCell ⟨w.heap.size, 1, none⟩ x1).setCell ⟨w.heap.size, 2, none⟩ x2).cell? ⟨w5.heap.size, i, none⟩ = W.cell? ⟨w5.heap.size, i, none⟩ := fun i => by
      rw [World.cell?_setCell_far _ _ _ _ hne, World.cell?_setCell_far _ _ _ _ hne, World.cell?_setCell_far _ _ _ _ hne]
    rw [e 0, e 1, e 2]
    exact h.1
  have hd : decide (0 < no ∧ sz ≤ 1920 ∧ rbytes no sz sm = l.take 28) = (if 0 < no then (if sz ≤ 1920 then decide (rbytes no sz sm = l.take 28) else false) else false) := by
    by_cases h1 : 0 < no <;> by_cases h2 : sz ≤ 1920 <;> simp [h1, h2]
  have HDd : Hid (decide (0 < rno l ∧ rsz l ≤ 1920 ∧ rbytes (rno l) (rsz l) (rsm l) = l.take 28) = (if 0 < no then (if sz ≤ 1920 then decide (rbytes no sz sm = l.take 28) else false) else false)) := by
    show _ = _
    rw [← hd, HNO.out, HSZ.out, HSM.out]; rfl
  have HFin : Hid (∀ m W, (((w6.drewN m).setCell ⟨w.heap.size, 0, none⟩ (.int .i64 no)).setCell ⟨w.heap.size, 1, none⟩ (.int .i64 sz)).setCell ⟨w.heap.size, 2, none⟩ (.int .i64 sm) = W →
      W.heap[w.heap.size]? = some (.cells [.int .i64 no, .int .i64 sz, .int .i64 sm].toArray 89) ∧ Below w.heap.size w W) := by
    rintro m W rfl
    refine ⟨setCell_heap 2 _ (setCell_heap 1 _ (setCell_heap (w := w6.drewN m) 0 _ hj)), (((Upd.setCell (S := []) (Upd.of_below (below_drewN hbw m) _) _ (.inl (Nat.le_refl _)) _).setCell _ (.inl (Nat.le_refl _)) _).setCell _ (.inl (Nat.le_refl _)) _).below⟩
  clear hj hSl hS6 hbw hown6 hb6 hU6 hU HB1 HB2 HZ2 HU HS hg hg6 hd HSl
  by_cases hn0 : 0 < no
  · have hs1 : (sz : Int) ≤ 1920 := by omega
    have hn1 : (0 : Int) < (no : Int) := by omega
    have hcap1 : (28 : Int) ≤ (cap : Int) := by omega
    have hcap2 : 28 ≤ cap := by omega
    go_wp2_with fail
    go_region_held3 (fun w' => (w'.cell? ⟨w5.heap.size, 0, none⟩ = some (.int .i64 no) ∧ w'.cell? ⟨w5.heap.size, 1, none⟩ = some (.int .i64 sz) ∧ w'.cell? ⟨w5.heap.size, 2, none⟩ = some (.int .i64 sm)) ∧ Hid (RtS g cap g6 cap6 l (rbytes no sz sm) w'))
      (first | assumption | exact HK0.out | exact HKd.out _ | exact HKs.out _ _ _ _ (HKd.out _) | exact HKs.out _ _ _ _ HK0.out)
      (first | (go_at_call 78; refine (equal_any _ g6 0 28 cap6 g 0 cap (rbytes no sz sm) (l.take 28) (by have h := ‹(_ ∧ _ ∧ _) ∧ Hid (RtS g cap g6 cap6 l (rbytes no sz sm) _)›; exact h.2.out.2) (by have h := ‹(_ ∧ _ ∧ _) ∧ Hid (RtS g cap g6 cap6 l (rbytes no sz sm) _)›; exact h.2.out.1.take 28) (rbytes_length _ _ _) (by simp [hlen]) (by omega)).mono ?_; rintro e w7 ⟨rfl, hw7⟩; obtain ⟨m, rfl⟩ := hw7.out; clear hw7))
    clear k0 k1 k2 j0 j1 j2 f0 f1 f2 HK0 HKd HKs
    generalize hW : (((w6.drewN (1 + m)).setCell ⟨w.heap.size, 0, none⟩ (.int .i64 no)).setCell ⟨w.heap.size, 1, none⟩ (.int .i64 sz)).setCell ⟨w.heap.size, 2, none⟩ (.int .i64 sm) = W
    have HF := HFin.out _ _ hW
    clear hW HFin
    go_wp2
    refine bodyPost_ret (res_ct rfl _ W w.heap.size _ rfl (load89 HF.1)) rfl ⟨?_, HF.2⟩
    rw [HDd.out, if_pos hn0, if_pos hs0]
    unfold rno rsz rsm
    rw [← HNO.out, ← HSZ.out, ← HSM.out]
    rfl
  · have hn1 : ¬ ((0 : Int) < (no : Int)) := by omega
    go_wp2_with fail
    refine wp_region_noPanic ?_
    refine wp_region_held_drew (S := (fun w' => (w'.cell? ⟨w5.heap.size, 0, none⟩ = some (.int .i64 no) ∧ w'.cell? ⟨w5.heap.size, 1, none⟩ = some (.int .i64 sz) ∧ w'.cell? ⟨w5.heap.size, 2, none⟩ = some (.int .i64 sm)) ∧ Hid (RtS g cap g6 cap6 l (rbytes no sz sm) w'))) (by kernel_rfl) HK0.out (fun hS0 => ?_)
    refine wpAnyH_take (i := 0) (oi := { dst := some 26, op := Op.load 89 (Operand.tmp 8), type := 89, pos := "image.go:113", after := #[], guard := none }) (v := ?_) rfl (by kernel_rfl) (by kernel_rfl) (by kernel_rfl) (fun _ _ _ h => h) (Or.inl ⟨by rfl, ?_⟩) hS0 ?_
    rotate_left
    · intro w hSw; go_simp; with_reducible rfl
    simp only [Act.put, List.setIfInBounds_toArray, List.set_cons_zero, List.set_cons_succ]
    refine wpAnyH_take (i := 1) (oi := { dst := some 27, op := Op.fieldAddr 89 (Operand.tmp 8) 0, type := 0, pos := "image.go:113", after := #[], guard := none }) (v := ?_) rfl (by kernel_rfl) (by kernel_rfl) (by kernel_rfl) (fun _ _ _ h => h) (Or.inl ⟨by rfl, ?_⟩) hS0 ?_
    rotate_left
    · intro w hSw; go_simp; with_reducible rfl
    simp only [Act.put, List.setIfInBounds_toArray, List.set_cons_zero, List.set_cons_succ]
    refine wpAnyH_take (i := 2) (oi := { dst := some 28, op := Op.load 3 (Operand.tmp 27), type := 3, pos := "image.go:113", after := #[{ on := 1, ground := Ground.data }], guard := none }) (v := ?_) rfl (by kernel_rfl) (by kernel_rfl) (by kernel_rfl) (fun _ _ _ h => h) (Or.inl ⟨by rfl, ?_⟩) hS0 ?_
    rotate_left
    · intro w hSw; go_simp; with_reducible rfl
    simp only [Act.put, List.setIfInBounds_toArray, List.set_cons_zero, List.set_cons_succ]
    refine wpAnyH_take (i := 3) (oi := { dst := some 29, op := Op.binOp BinOp.gtr 3 (Operand.tmp 28) (Operand.const (Value.int IntKind.i64 0)) 3, type := 4, pos := "image.go:113", after := #[{ on := 2, ground := Ground.data }], guard := none }) (v := ?_) rfl (by kernel_rfl) (by kernel_rfl) (by kernel_rfl) (fun _ _ _ h => h) (Or.inl ⟨by rfl, ?_⟩) hS0 ?_
    rotate_left
    · intro w hSw; go_simp; with_reducible rfl
    simp only [Act.put, List.setIfInBounds_toArray, List.set_cons_zero, List.set_cons_succ]
    refine wpAnyH_take (i := 4) (oi := { dst := some 30, op := Op.move (Operand.tmp 29), type := 4, pos := "image.go:113", after := #[{ on := 3, ground := Ground.data }], guard := none }) (v := ?_) rfl (by kernel_rfl) (by kernel_rfl) (by kernel_rfl) (fun _ _ _ h => h) (Or.inl ⟨by rfl, ?_⟩) hS0 ?_
    rotate_left
    · intro w hSw; go_simp; with_reducible rfl
    simp only [Act.put, List.setIfInBounds_toArray, List.set_cons_zero, List.set_cons_succ]
    refine wpAnyH_take (i := 5) (oi := { dst := some 31, op := Op.fieldAddr 89 (Operand.tmp 8) 1, type := 0, pos := "image.go:113", after := #[{ on := 4, ground := Ground.guard }], guard := some (4, true) }) (v := undef) rfl (by kernel_rfl) (by kernel_rfl) (by kernel_rfl) (fun _ _ _ h => h) (Or.inr ⟨by rfl, rfl⟩) hS0 ?_
    simp only [Act.put, List.setIfInBounds_toArray, List.set_cons_zero, List.set_cons_succ]
    refine wpAnyH_take (i := 6) (oi := { dst := some 32, op := Op.load 3 (Operand.tmp 31), type := 3, pos := "image.go:113", after := #[{ on := 5, ground := Ground.data }, { on := 4, ground := Ground.guard }], guard := some (4, true) }) (v := undef) rfl (by kernel_rfl) (by kernel_rfl) (by kernel_rfl) (fun _ _ _ h => h) (Or.inr ⟨by rfl, rfl⟩) hS0 ?_
    simp only [Act.put, List.setIfInBounds_toArray, List.set_cons_zero, List.set_cons_succ]
    refine wpAnyH_take (i := 7) (oi := { dst := some 33, op := Op.binOp BinOp.leq 3 (Operand.tmp 32) (Operand.const (Value.int IntKind.i64 1920)) 3, type := 4, pos := "image.go:113", after := #[{ on := 6, ground := Ground.data }, { on := 4, ground := Ground.guard }], guard := some (4, true) }) (v := undef) rfl (by kernel_rfl) (by kernel_rfl) (by kernel_rfl) (fun _ _ _ h => h) (Or.inr ⟨by rfl, rfl⟩) hS0 ?_
    simp only [Act.put, List.setIfInBounds_toArray, List.set_cons_zero, List.set_cons_succ]
    refine wpAnyH_take (i := 8) (oi := { dst := some 34, op := Op.pick (Operand.tmp 30) (Operand.tmp 33) (Operand.const (Value.bool false)), type := 4, pos := "image.go:113", after := #[{ on := 4, ground := Ground.data }, { on := 7, ground := Ground.data }], guard := none }) (v := ?_) rfl (by kernel_rfl) (by kernel_rfl) (by kernel_rfl) (fun _ _ _ h => h) (Or.inl ⟨by rfl, ?_⟩) hS0 ?_
    rotate_left
    · intro w hSw; go_simp; with_reducible rfl
    simp only [Act.put, List.setIfInBounds_toArray, List.set_cons_zero, List.set_cons_succ]
    refine wpAnyH_take (i := 9) (oi := { dst := some 35, op := Op.move (Operand.tmp 34), type := 4, pos := "image.go:113", after := #[{ on := 8, ground := Ground.data }, { on := 4, ground := Ground.chain }], guard := none }) (v := ?_) rfl (by kernel_rfl) (by kernel_rfl) (by kernel_rfl) (fun _ _ _ h => h) (Or.inl ⟨by rfl, ?_⟩) hS0 ?_
    rotate_left
    · intro w hSw; go_simp; with_reducible rfl
    simp only [Act.put, List.setIfInBounds_toArray, List.set_cons_zero, List.set_cons_succ]
    refine wpAnyH_take (i := 10) (oi := { dst := some 36, op := Op.move (Operand.tmp 9), type := 63, pos := "image.go:113", after := #[{ on := 9, ground := Ground.guard }], guard := some (9, true) }) (v := undef) rfl (by kernel_rfl) (by kernel_rfl) (by kernel_rfl) (fun _ _ _ h => h) (Or.inr ⟨by rfl, rfl⟩) hS0 ?_
    simp only [Act.put, List.setIfInBounds_toArray, List.set_cons_zero, List.set_cons_succ]
    refine wpAnyH_take (i := 11) (oi := { dst := some 37, op := Op.move (Operand.tmp 6), type := 63, pos := "image.go:113", after := #[{ on := 9, ground := Ground.guard }], guard := some (9, true) }) (v := undef) rfl (by kernel_rfl) (by kernel_rfl) (by kernel_rfl) (fun _ _ _ h => h) (Or.inr ⟨by rfl, rfl⟩) hS0 ?_
    simp only [Act.put, List.setIfInBounds_toArray, List.set_cons_zero, List.set_cons_succ]
    refine wpAnyH_take (i := 12) (oi := { dst := some 38, op := Op.move (Operand.tmp 9), type := 63, pos := "image.go:113", after := #[{ on := 9, ground := Ground.guard }], guard := some (9, true) }) (v := undef) rfl (by kernel_rfl) (by kernel_rfl) (by kernel_rfl) (fun _ _ _ h => h) (Or.inr ⟨by rfl, rfl⟩) hS0 ?_
    simp only [Act.put, List.setIfInBounds_toArray, List.set_cons_zero, List.set_cons_succ]
    refine wpAnyH_take (i := 13) (oi := { dst := some 39, op := Op.call { callee := Callee.builtin Builtin.len, args := #[Operand.tmp 38], argTypes := #[63] }, type := 3, pos := "image.go:113", after := #[{ on := 12, ground := Ground.data }, { on := 9, ground := Ground.guard }], guard := some (9, true) }) (v := undef) rfl (by kernel_rfl) (by kernel_rfl) (by kernel_rfl) (fun _ _ _ h => h) (Or.inr ⟨by rfl, rfl⟩) hS0 ?_
    simp only [Act.put, List.setIfInBounds_toArray, List.set_cons_zero, List.set_cons_succ]
    refine wpAnyH_take (i := 14) (oi := { dst := some 40, op := Op.slice 63 (Operand.tmp 37) none (some (Operand.tmp 39)) none, type := 63, pos := "image.go:113", after := #[{ on := 11, ground := Ground.data }, { on := 13, ground := Ground.data }, { on := 9, ground := Ground.guard }], guard := some (9, true) }) (v := undef) rfl (by kernel_rfl) (by kernel_rfl) (by kernel_rfl) (fun _ _ _ h => h) (Or.inr ⟨by rfl, rfl⟩) hS0 ?_
    simp only [Act.put, List.setIfInBounds_toArray, List.set_cons_zero, List.set_cons_succ]
    refine wpAnyH_ready (rs := [15]) (by kernel_rfl) (by simp) ?_
    refine AllReadyH.cons rfl (fun K hK => ?_) AllReadyH.nil
    go_simp
    refine hK.out _ _ hS0 (fun _ => ?_)
    clear hK K
    refine wpAnyH_take (i := 16) (oi := { dst := some 42, op := Op.pick (Operand.tmp 35) (Operand.tmp 41) (Operand.const (Value.bool false)), type := 4, pos := "image.go:113", after := #[{ on := 9, ground := Ground.data }, { on := 15, ground := Ground.data }, { on := 17, ground := Ground.gcOnly Departure.lateStores }], guard := none }) (v := ?_) rfl (by kernel_rfl) (by kernel_rfl) (by kernel_rfl) (fun _ _ _ h => h) (Or.inl ⟨by rfl, ?_⟩) hS0 ?_
    rotate_left
    · intro w hSw; go_simp; with_reducible rfl
    simp only [Act.put, List.setIfInBounds_toArray, List.set_cons_zero, List.set_cons_succ]
    refine wpAnyH_ready (rs := [17]) (by kernel_rfl) (by simp) ?_
    refine AllReadyH.cons rfl (fun K hK => ?_) AllReadyH.nil
    go_simp
    refine hK.out _ _ (HKs.out _ _ _ _ HK0.out) (fun _ => ?_)
    clear hK K
    refine wpAnyH_ready (rs := [18]) (by kernel_rfl) (by simp) ?_
    refine AllReadyH.cons rfl (fun K hK => ?_) AllReadyH.nil
    go_simp
    refine hK.out _ _ (HKs.out _ _ _ _ HK0.out) (fun _ => ?_)
    clear hK K
    refine wpAnyH_done (by kernel_rfl) ?_ _
    refine NoPanic.normal ?_
    clear k0 k1 k2 j0 j1 j2 f0 f1 f2 HK0 HKd HKs
    generalize hW : (((w6.setCell ⟨w.heap.size, 0, none⟩ (.int .i64 no)).setCell ⟨w.heap.size, 1, none⟩ (.int .i64 sz)).setCell ⟨w.heap.size, 2, none⟩ (.int .i64 sm)).drew = W
    have HF := HFin.out 1 _ hW
    clear hW HFin hS0
    go_wp2
    refine bodyPost_ret (res_ct rfl _ W w.heap.size _ rfl (load89 HF.1)) rfl ⟨?_, HF.2⟩
    rw [HDd.out, if_neg hn0]
    unfold rno rsz rsm
    rw [← HNO.out, ← HSZ.out, ← HSM.out]
    rfl
end Go.Proofs.YtgjjcbcmjbnfnaaDoor
