/- The walks of the disk's small functions; no statement of the seat is proved here. -/
import Derived.Test.YtgjjcbcmjbnfnaaDoorDk
import Derived.StillTailTactics
namespace Go.Proofs.YtgjjcbcmjbnfnaaDoor
open Go.RowKit

def ptr (b : Nat) : Value := .pointer (some ⟨b, 0, none⟩)

theorem good_any {b : Nat} {w : World} (h0 : w.cell? ⟨b, 0, none⟩ = some (.bool true)) :
    Calls Tryd.prog 47 #[.pointer (some ⟨b, 0, none⟩)] w fun e w' => e = .returned (.bool true) ∧ w = w' := by
  go_enter Tryd.func47, Tryd.ntmps47
  go_wp2
  go_ret
  exact ⟨rfl, rfl⟩

theorem good_nil (w : World) : Calls Tryd.prog 47 #[.pointer none] w fun e w' => e = .returned (.bool false) ∧ w = w' := by
  go_enter Tryd.func47, Tryd.ntmps47
  go_wp2
  go_ret
  exact ⟨rfl, rfl⟩

theorem good_not {b : Nat} {w : World} (h0 : w.cell? ⟨b, 0, none⟩ = some (.bool false)) :
    Calls Tryd.prog 47 #[.pointer (some ⟨b, 0, none⟩)] w fun e w' => e = .returned (.bool false) ∧ w = w' := by
  go_enter Tryd.func47, Tryd.ntmps47
  go_wp2
  go_ret
  exact ⟨rfl, rfl⟩

/-- An act of the disk: what it returns, and the disk behind it. -/
def Dk.act (s : Dk) : Dk := if s.left > 0 then (if s.left = 1 then { s with left := 0, down := true } else { s with left := s.left - 1 }) else s
def Dk.actE (s : Dk) : Int := if s.left = 1 then 8 else 0

theorem act_any (b : Nat) (w : World) (s : Dk) (h : IsDisk w b s) (hl : 0 ≤ s.left) (hl2 : s.left < 4611686018427387904) :
    Calls Tryd.prog 52 #[.pointer (some ⟨b, 0, none⟩)] w fun e w' => e = .returned (.int .i64 s.actE) ∧ IsDisk w' b s.act ∧ Upd w.heap.size [b] w w' := by
  have h2 := h.c2
  have f1 := h.fr 1
  have f2 := h.fr 2
  have h1 := h.c1
  by_cases c0 : s.left = 0
  · rw [c0] at h2
    clear hl hl2
    go_enter Tryd.func52, Tryd.ntmps52
    go_wp2
    go_ret
    exact ⟨by simp [Dk.actE, c0], by simp [Dk.act, c0]; exact h, Upd.refl _ _ _⟩
  · by_cases c1 : s.left = 1
    · rw [c1] at h2
      clear hl hl2 c0
      go_enter Tryd.func52, Tryd.ntmps52
      go_wp2
      go_ret
      refine ⟨by simp [Dk.actE, c1], ?_, ((Upd.refl _ _ _).setCell _ (.inr (by simp)) _).setCell _ (.inr (by simp)) _⟩
      have := (h.setLeft 0).setDown true
      simp only [Dk.act, c1]
      exact this
    · have hgt : 1 < s.left := by omega
      clear hl c0
      go_enter Tryd.func52, Tryd.ntmps52
      go_wp2
      go_ret
      refine ⟨by simp [Dk.actE, c1], ?_, (Upd.refl _ _ _).setCell _ (.inr (by simp)) _⟩
      have := h.setLeft (s.left - 1)
      simp only [Dk.act, if_pos (show s.left > 0 by omega), if_neg c1]
      exact this

theorem down_any (b : Nat) (w : World) (s : Dk) (h : IsDisk w b s) :
    Calls Tryd.prog 19 #[.pointer (some ⟨b, 0, none⟩)] w fun e w' => e = .returned (.bool s.down) ∧ w = w' := by
  have h0 := h.c0
  have h1 := h.c1
  go_enter Tryd.func19, Tryd.ntmps19
  go_wp2_with (go_at_call 47; refine (good_any h0).mono ?_; rintro e w' ⟨rfl, rfl⟩)
  go_ret
  exact ⟨rfl, rfl⟩

theorem arm_any (b : Nat) (w : World) (s : Dk) (n : Int) (hD : IsDisk w b s) :
    Calls Tryd.prog 18 #[.pointer (some ⟨b, 0, none⟩), .int .i64 n] w fun e w' => e = .returned (.tuple #[]) ∧ IsDisk w' b { s with left := max n 0 } ∧ Upd w.heap.size [b] w w' := by
  have h0 := hD.c0
  have h2 := hD.c2
  have f2 := hD.fr 2
  go_enter Tryd.func18, Tryd.ntmps18
  go_wp2_with (go_at_call 47; refine (good_any h0).mono ?_; rintro e w' ⟨rfl, rfl⟩)
  · have hn : n < 0 := by assumption
    go_end0
    refine ⟨rfl, ?_, (Upd.refl _ _ _).setCell _ (.inr (by simp)) _⟩
    rw [Int.max_eq_right (by omega)]
    exact hD.setLeft 0
  · have hn : 0 ≤ n := by assumption
    go_end0
    refine ⟨rfl, ?_, (Upd.refl _ _ _).setCell _ (.inr (by simp)) _⟩
    rw [Int.max_eq_left hn]
    exact hD.setLeft n

/-- The bytes of a new disk. -/
def zs : List UInt8 := List.replicate 4096 0
theorem zs_length : zs.length = 4096 := List.length_replicate
def Dk.new (m : Nat) : Dk := { down := false, left := 0, turn := 0, opened := 0, bs := zs, bm := m, sy := [] }

theorem zeroCells49_eq : Tryd.zeroCells49 = (Value.bool false :: .bool false :: .int .i64 0 :: .int .i64 0 :: .int .i64 0 :: (bvs zs ++ [.map none])).toArray := by kernel_rfl

set_option maxRecDepth 100000 in
theorem newCells_eq (m : Nat) : (Tryd.zeroCells49.setIfInBounds 0 (.bool true)).setIfInBounds 4101 (.map (some m)) = (Dk.new m).cells.toArray := by
  rw [zeroCells49_eq, List.setIfInBounds_toArray, List.setIfInBounds_toArray]
  congr 1

theorem newDisk_any (w : World) :
    Calls Tryd.prog 17 #[] w fun e w' => e = .returned (.pointer (some ⟨w.heap.size + 1, 0, none⟩)) ∧ IsDisk w' (w.heap.size + 1) (Dk.new w.heap.size) ∧ Upd w.heap.size [] w w' := by
  have hmm := @run_makeMap Tryd.prog
  go_enter Tryd.func17, Tryd.ntmps17
  go_wp2
  go_ret
  refine ⟨rfl, ?_, ((Upd.refl _ _ _).alloc (Nat.le_refl _) _).alloc (by simp) _⟩
  rw [newCells_eq]
  exact ⟨alloc_new _ (by simp), zs_length, (IsMap.new rfl).of_heap (Below.heap_alloc _ _ _ (by simp)), by simp [Dk.new]⟩

theorem sync_down (b : Nat) (w : World) (s : Dk) (hD : IsDisk w b s) (hd : s.down = true) :
    Calls Tryd.prog 27 #[.pointer (some ⟨b, 0, none⟩)] w fun e w' => e = .returned (.int .i64 8) ∧ w = w' := by
  have h0 := hD.c0
  have h1 := hD.c1
  rw [hd] at h1
  go_enter Tryd.func27, Tryd.ntmps27
  go_wp2_with (go_at_call 47; refine (good_any h0).mono ?_; rintro e w' ⟨rfl, rfl⟩)
  go_ret
  exact ⟨rfl, rfl⟩

theorem sync_any (b : Nat) (w : World) (s : Dk) (hD : IsDisk w b s) (hd : s.down = false) (hl : 0 ≤ s.left) (hl2 : s.left < 4611686018427387904) :
    Calls Tryd.prog 27 #[.pointer (some ⟨b, 0, none⟩)] w fun e w' => e = .returned (.int .i64 s.actE) ∧ (s.left = 1 → IsDisk w' b s.act) ∧
      (s.left ≠ 1 → ∃ m, w.heap.size ≤ m ∧ IsDisk w' b { s.act with bm := m, sy := [] }) ∧ Upd w.heap.size [b] w w' := by
  have hmm := @run_makeMap Tryd.prog
  have h0 := hD.c0
  have h1 := hD.c1
  rw [hd] at h1
  by_cases c1 : s.left = 1
  · have hE : s.actE = 8 := by simp [Dk.actE, c1]
    go_enter Tryd.func27, Tryd.ntmps27
    go_wp2_with (first | (go_at_call 47; refine (good_any h0).mono ?_; rintro e w' ⟨rfl, rfl⟩) | (go_at_call 52; refine (act_any b w s hD hl hl2).mono ?_; rintro e w' ⟨rfl, hd', hu⟩))
    go_ret
    exact ⟨by rw [hE]; rfl, fun _ => hd', fun h => absurd c1 h, hu⟩
  · have hE : s.actE = 0 := by simp [Dk.actE, c1]
    go_enter Tryd.func27, Tryd.ntmps27
    go_wp2_with (first | (go_at_call 47; refine (good_any h0).mono ?_; rintro e w' ⟨rfl, rfl⟩) | (go_at_call 52; refine (act_any b w s hD hl hl2).mono ?_; rintro e w' ⟨rfl, hd', hu⟩; have h6 := hd'.c6; have f6 := hd'.fr 4101; have hlt := hd'.lt))
    go_ret
    have hsz := hu.size
    rw [← World.setCell_alloc_past _ _ _ _ hlt]
    refine ⟨by rw [hE]; rfl, fun h => absurd h c1, fun _ => ⟨w'.heap.size, hsz, ?_⟩, (hu.alloc hsz _).setCell _ (.inr (by simp)) _⟩
    exact (hd'.alloc _).setMap w'.heap.size [] (IsMap.new rfl) (Nat.ne_of_lt hlt)

/-! ### slices.Clone of bytes; Read -/

theorem Tryd.info5 : (Tryd.prog.info? 5).map (fun i => (i.zero, i.size, i.bytes)) = some (some (.int .u8 0), 1, 1) := by kernel_rfl

set_option maxRecDepth 100000 in
theorem cloneBytes_any (g o n c : Nat) (w : World) (l : List UInt8) (hn : l.length = n) (hb : n < 1000000) (hl : ∀ j u, (bvs l)[j]? = some u → w.cell? ((⟨g, o, none⟩ : Addr).add j) = some u) :
    Calls Tryd.prog 55 #[.slice (some ⟨g, o, none⟩) n c] w fun e w' => ∃ v, e = .returned v ∧ w'.ownsRow w.heap.size 5 1 v n (bvs l) ∧ Upd w.heap.size [] w w' ∧ (v ≠ .slice none 0 0) := by
  obtain ⟨i0, hi, hz0, hz1, hz2⟩ := info_parts Tryd.info5
  have q63 : ∀ (w : World) (a : Option Addr) (n c : Nat), (binOp .eql 63 (.slice a n c) (.slice none 0 0)).run Tryd.prog w = .ok (.bool a.isNone) w := fun w a n c => Lib.run_eql_slice_nil w _ _ a n c 0 0 Tryd.underlying63
  have hown := World.ownsRow_made (e := 5) (size := 1) (base := w.heap.size) w #[] 0 (Nat.le_refl _) (by simp [maxLen]) rfl
  have hl2 : ∀ j u, (bvs l)[j]? = some u → (w.alloc (.cells #[] 5)).cell? ((⟨g, o, none⟩ : Addr).add j) = some u := by
    intro j u hj
    have h1 := hl j u hj
    rw [World.cell?_alloc_lt _ _ _ (World.block_lt_of_cell? w _ h1)]; exact h1
  have HL := Lib.hid hl2; clear hl hl2
  have HN := Lib.hid hn; clear hn
  go_enter Tryd.func55, Tryd.ntmps55
  go_wp2_with (at_builtin; refine wpList_append_own _ rfl _ _ 63 rfl w.heap.size 5 i0 (.int .u8 0) 1 1 Tryd.underlying63 hi hz0 hz1 hz2 rfl (by decide) _ _ _ rfl hown ⟨g, o, none⟩ n c (bvs l) rfl ?c0 HL.out (bvs_one l) ?c1 ?c2 ?c3 ?_)
  case c0 => simp [HN.out]
  case c1 => simp [maxLen]; omega
  case c2 => omega
  case c3 => simp
  intro v' w1 hown' hgrow hnil
  go_wp2
  go_ret
  exact ⟨v', rfl, hown', ((Upd.refl _ _ _).alloc (Nat.le_refl _) _).grown hgrow (by simp) (fun k hk => .inl (by cases hk; exact Nat.le_refl _)), hnil⟩

theorem read_any (b : Nat) (w : World) (s : Dk) (hD : IsDisk w b s) (k : Int) (h0k : 0 ≤ k) (hk : k < 32) :
    Calls Tryd.prog 35 #[.pointer (some ⟨b, 0, none⟩), .int .i64 k] w fun e w' => ∃ v, e = .returned v ∧ w'.ownsRow w.heap.size 5 1 v 128 (bvs (blk s.bs k.toNat)) ∧ Upd w.heap.size [] w w' ∧ (v ≠ .slice none 0 0) := by
  obtain ⟨k, rfl⟩ := Int.eq_ofNat_of_zero_le h0k
  have hk' : k < 32 := by omega
  have h0 := hD.c0
  have hl : ∀ j u, (bvs (blk s.bs k))[j]? = some u → w.cell? ((⟨b, 5 + k * 128, none⟩ : Addr).add j) = some u := by
    intro j u hj
    have hlen : (blk s.bs k).length = 128 := blk_length hD.len hk'
    have hj2 : j < 128 := by have := (List.getElem?_eq_some_iff.1 hj).1; simp [hlen] at this; exact this
    have hadd : (⟨b, 5 + k * 128, none⟩ : Addr).add j = ⟨b, 5 + k * 128 + j, none⟩ := by unfold Addr.add; split <;> simp_all
    rw [hadd, cell_of_heap hD.heap, ← hj, ← Dk.cells_blk hD.len hk', List.getElem?_take, if_pos hj2, List.getElem?_drop]
    congr 1; omega
  have HL := Lib.hid hl; clear hl
  have HB := Lib.hid (blk_length hD.len hk')
  have hk2 : (k : Int) < 32 := hk
  go_enter Tryd.func35, Tryd.ntmps35
  go_wp2_with (go_at_call 47; refine (good_any h0).mono ?_; rintro e w' ⟨rfl, rfl⟩)
  refine (cloneBytes_any b (5 + k * 128) 128 128 w (blk s.bs k) HB.out (by omega) HL.out).mono ?_
  rintro e w' ⟨v, rfl, hown, hu, hne⟩
  go_wp2
  go_ret
  exact ⟨v, rfl, hown, hu, hne⟩

theorem read_out (b : Nat) (w : World) (s : Dk) (hD : IsDisk w b s) (k : Int) (hk : k < 0 ∨ 32 ≤ k) :
    Calls Tryd.prog 35 #[.pointer (some ⟨b, 0, none⟩), .int .i64 k] w fun e w' => e = .returned (.slice none 0 0) ∧ w = w' := by
  have h0 := hD.c0
  rcases hk with hk | hk
  all_goals
    go_enter Tryd.func35, Tryd.ntmps35
    go_wp2_with (go_at_call 47; refine (good_any h0).mono ?_; rintro e w' ⟨rfl, rfl⟩)
    go_ret
    exact ⟨rfl, rfl⟩

/-! ### Write -/

/-- What Write makes of the disk, ahead of the act. -/
def Dk.put (s : Dk) (k : Nat) (l : List UInt8) : Dk :=
  { s with bs := blkSet s.bs k (l ++ List.replicate (128 - l.length) 0), sy := if syGet s.sy k = none then s.sy ++ [(k, blk s.bs k)] else s.sy }

theorem write_down (b : Nat) (w : World) (s : Dk) (k : Int) (a : Option Addr) (n c : Nat) (hD : IsDisk w b s) (hd : s.down = true) (h0k : 0 ≤ k) (hk : k < 32) (hn : n ≤ 128) :
    Calls Tryd.prog 32 #[.pointer (some ⟨b, 0, none⟩), .int .i64 k, .slice a n c] w fun e w' => e = .returned (.int .i64 8) ∧ w = w' := by
  have h0 := hD.c0
  have h1 := hD.c1
  rw [hd] at h1
  go_enter Tryd.func32, Tryd.ntmps32
  go_wp2_with (go_at_call 47; refine (good_any h0).mono ?_; rintro e w' ⟨rfl, rfl⟩)
  go_ret
  exact ⟨rfl, rfl⟩

theorem add_addr (b o j : Nat) : (⟨b, o, none⟩ : Addr).add j = ⟨b, o + j, none⟩ := by unfold Addr.add; split <;> simp_all

theorem blkSet_blkSet {l : List UInt8} {k : Nat} (x y : List UInt8) (hl : l.length = 4096) (hk : k < 32) (hx : x.length = 128) : blkSet (blkSet l k x) k y = blkSet l k y := by
  have h1 : (l.take (128 * k)).length = 128 * k := by simp [hl]; omega
  have h3 : (l.take (128 * k) ++ x).length = 128 * k + 128 := by simp [hl, hx]; omega
  have ea : (blkSet l k x).take (128 * k) = l.take (128 * k) := by
    rw [blkSet, List.append_assoc, List.take_append_of_le_length (by omega), List.take_of_length_le (by omega)]
  have eb : (blkSet l k x).drop (128 * k + 128) = l.drop (128 * k + 128) := by
    rw [blkSet, List.drop_append_of_le_length (by omega), List.drop_of_length_le (by omega), List.nil_append]
  rw [blkSet, ea, eb]; rfl

/-- The two stores of Write: the block is cleared, and the bytes are copied into it. -/
theorem write_stores (b : Nat) (w : World) (s : Dk) (k g o n c : Nat) (l : List UInt8) (hD : IsDisk w b s) (hk : k < 32) (hn : n ≤ 128) (hln : l.length = n)
    (hl : ∀ j u, (bvs l)[j]? = some u → w.cell? ((⟨g, o, none⟩ : Addr).add j) = some u) (hgb : g ≠ b) :
    ∃ W2 W3, (storeCells ⟨b, 5 + k * 128, none⟩ Tryd.zeroCells45.toList).run Tryd.prog w = .ok () W2 ∧ 
      (Builtin.copy_ #[63, 63] 3 #[.slice (some ⟨b, 5 + k * 128, none⟩) 128 128, .slice (some ⟨g, o, none⟩) n c]).run Tryd.prog W2 = .ok (.int .i64 n) W3 ∧ IsDisk W3 b { s with bs := blkSet s.bs k (l ++ List.replicate (128 - l.length) 0) } ∧ (∀ B, Upd B [b] w W3) ∧ W3.heap.size = w.heap.size := by
  have hz : Tryd.zeroCells45.toList = bvs (List.replicate 128 0) := by rw [zeroCells45_eq]
  have hlz : (List.replicate 128 (0 : UInt8)).length = 128 := List.length_replicate
  obtain ⟨c1, hs1, hD1⟩ := hD.storeBlk (P := Tryd.prog) (i := 0) hk (List.replicate 128 0) (by rw [hlz]; omega) (show 5 + k * 128 = 5 + 128 * k + 0 by omega)
  have hb1 : (blk s.bs k).take 0 ++ List.replicate 128 0 ++ (blk s.bs k).drop (0 + (List.replicate 128 (0 : UInt8)).length) = List.replicate 128 0 := by
    rw [hlz, List.drop_of_length_le (by rw [blk_length hD.len hk]; omega)]; simp
  rw [hb1] at hD1
  obtain ⟨c2, hs2, hD2⟩ := hD1.storeBlk (P := Tryd.prog) (i := 0) hk l (by omega) (show 5 + k * 128 = 5 + 128 * k + 0 by omega)
  refine ⟨w.setRow b c1, (w.setRow b c1).setRow b c2, hz ▸ hs1, ?_, ?_, fun B => ((Upd.refl B [b] w).setRow b (.inr (by simp)) _).setRow b (.inr (by simp)) _, by simp⟩
  · have h3 := run_loadCells_list (P := Tryd.prog) (w.setRow b c1) ⟨g, o, none⟩ (bvs l) (fun j v hv => by rw [add_addr, cell_setRow_other _ _ _ _ (by simpa using hgb), ← add_addr]; exact hl j v hv)
    rw [bvs_length, hln] at h3
    have hmin : Nat.min n 128 = n := Nat.min_eq_left hn
    simp [Builtin.copy_, Sem.run_bind, Tryd.runUnderlying63, Tryd.sizeOf5, Builtin.lenOf, Builtin.firstCells, hmin, h3, hs2, goInt]
  · have hlz0 : (List.replicate 128 (0 : UInt8)).length = 128 := hlz
    have e1 : blk (blkSet s.bs k (List.replicate 128 0)) k = List.replicate 128 0 := blk_blkSet_same hD.len hk hlz
    have e2 : ∀ x y : List UInt8, x.length = 128 → blkSet (blkSet s.bs k x) k y = blkSet s.bs k y := fun x y hx => blkSet_blkSet x y hD.len hk hx
    simp only [e1, e2 _ _ hlz, List.take_zero, List.nil_append, Nat.zero_add, List.drop_replicate] at hD2
    exact hD2

set_option maxRecDepth 100000 in
theorem write_old (b : Nat) (w : World) (s : Dk) (k : Nat) (g o n c : Nat) (l : List UInt8) (hD : IsDisk w b s) (hd : s.down = false) (hk : k < 32) (hn : n ≤ 128) (hln : l.length = n)
    (hl : ∀ j u, (bvs l)[j]? = some u → w.cell? ((⟨g, o, none⟩ : Addr).add j) = some u) (hgb : g ≠ b) (hleft : 0 ≤ s.left) (hleft2 : s.left < 4611686018427387904)
    (old : List UInt8) (hy : syGet s.sy k = some old) (hol : (bvs old).length = 128) :
    Calls Tryd.prog 32 #[.pointer (some ⟨b, 0, none⟩), .int .i64 k, .slice (some ⟨g, o, none⟩) n c] w fun e w' =>
      e = .returned (.int .i64 s.actE) ∧ IsDisk w' b (s.put k l).act ∧ Upd w.heap.size [b, s.bm] w w' := by
  have h0 := hD.c0
  have h1 := hD.c1
  rw [hd] at h1
  have h6 := hD.c6
  have hlk := run_lookup_yes w s.bm k s.sy hD.map old hy true
  simp only [if_true] at hlk
  have hst := run_storeNew (P := Tryd.prog) w w.heap.size rfl (bvs old) Tryd.zeroCells45 45 (by rw [hol]; exact Tryd.zeroCells45_size) (bvs_one old)
  have hos : (bvs old).toArray.size = 128 := by simpa using hol
  have hl1 : ∀ j u, (bvs l)[j]? = some u → (w.alloc (.cells (bvs old).toArray 45)).cell? ((⟨g, o, none⟩ : Addr).add j) = some u := by
    intro j u hj
    have h1 := hl j u hj
    rw [World.cell?_alloc_lt _ _ _ (World.block_lt_of_cell? w _ h1)]; exact h1
  obtain ⟨W2, W3, hs2, hs3, hD3, hu3, hsz3⟩ := write_stores b (w.alloc (.cells (bvs old).toArray 45)) s k g o n c l (hD.alloc _) hk hn hln hl1 hgb
  have hput : s.put k l = { s with bs := blkSet s.bs k (l ++ List.replicate (128 - l.length) 0) } := by simp [Dk.put, hy]
  rw [← hput] at hD3
  have HLN := Lib.hid hln
  have HY := Lib.hid hy
  have HO := Lib.hid hol
  have HL := Lib.hid hl
  have HP := Lib.hid hput
  have HS := Lib.hid hsz3
  clear hln hy hol hl hl1 hput hsz3
  go_enter Tryd.func32, Tryd.ntmps32
  go_wp2_with (first | (go_at_call 47; refine (good_any h0).mono ?_; rintro e w' ⟨rfl, rfl⟩) | (go_at_call 52; refine (act_any b W3 (s.put k l) hD3 hleft hleft2).mono ?_; rintro e w' ⟨rfl, hD', hu'⟩))
  go_ret
  refine ⟨rfl, hD', ?_⟩
  have h3 := (hu3 w.heap.size)
  have hs := HS.out
  exact (((Upd.refl w.heap.size [b, s.bm] w).alloc (Nat.le_refl _) _).trans (h3.mono (Nat.le_refl _) (by simp))).trans (hu'.mono (by rw [hs]; simp) (by simp))

set_option maxHeartbeats 1000000 in
set_option maxRecDepth 100000 in
theorem write_new (b : Nat) (w : World) (s : Dk) (k : Nat) (g o n c : Nat) (l : List UInt8) (hD : IsDisk w b s) (hd : s.down = false) (hk : k < 32) (hn : n ≤ 128) (hln : l.length = n)
    (hl : ∀ j u, (bvs l)[j]? = some u → w.cell? ((⟨g, o, none⟩ : Addr).add j) = some u) (hgb : g ≠ b) (hleft : 0 ≤ s.left) (hleft2 : s.left < 4611686018427387904)
    (hy : syGet s.sy k = none) :
    Calls Tryd.prog 32 #[.pointer (some ⟨b, 0, none⟩), .int .i64 k, .slice (some ⟨g, o, none⟩) n c] w fun e w' =>
      e = .returned (.int .i64 s.actE) ∧ IsDisk w' b (s.put k l).act ∧ Upd w.heap.size [b, s.bm] w w' := by
  have h0 := hD.c0
  have h1 := hD.c1
  rw [hd] at h1
  have h6 := hD.c6
  have hlk := run_lookup_no w s.bm k s.sy hD.map hy true
  simp only [if_true] at hlk
  have hz : Tryd.zeroCells45.toList = bvs (List.replicate 128 0) := by rw [zeroCells45_eq]
  have hst := run_storeNew (P := Tryd.prog) w w.heap.size rfl Tryd.zeroCells45.toList Tryd.zeroCells45 45 (by simp) (by rw [hz]; exact bvs_one _)
  have hos : Tryd.zeroCells45.size = 128 := Tryd.zeroCells45_size
  obtain ⟨W1, hW1⟩ : ∃ W1, W1 = (w.alloc (.cells Tryd.zeroCells45 45)).drew := ⟨_, rfl⟩
  have hD1 : IsDisk W1 b s := by rw [hW1]; exact (hD.alloc _).drew
  obtain ⟨ob, hmu, hm2⟩ := run_mapUpdate_no W1 s.bm k hk s.sy hD1.map hy (blk s.bs k) (blk_length hD.len hk)
  have HLB := Lib.hid (hD1.loadVarBlk hk (show 5 + k * 128 = 5 + 128 * k by omega))
  have hD2 : IsDisk (putObj W1 s.bm ob) b { s with sy := s.sy ++ [(k, blk s.bs k)] } := ⟨(putObj_other W1 s.bm b ob hD.ne).trans hD1.heap, hD.len, hm2, hD.ne⟩
  obtain ⟨Wm, hWm⟩ : ∃ Wm, Wm = putObj W1 s.bm ob := ⟨_, rfl⟩
  rw [← hWm] at hmu hD2
  have hl1 : ∀ j u, (bvs l)[j]? = some u → Wm.cell? ((⟨g, o, none⟩ : Addr).add j) = some u := by
    intro j u hj
    have h1 := hl j u hj
    have hlt := World.block_lt_of_cell? w _ h1
    have hne : ((⟨g, o, none⟩ : Addr).add j).block ≠ s.bm := by
      intro e
      obtain ⟨es, clk, hx, _⟩ := hD.map.ex
      rw [← e] at hx
      simp [World.cell?, hx] at h1
    rw [hWm, hW1]
    rw [World.cell?_of_block (w := (w.alloc (.cells Tryd.zeroCells45 45)).drew) (putObj_other _ s.bm _ ob hne)]
    rw [World.cell?_drew, World.cell?_alloc_lt _ _ _ hlt]; exact h1
  obtain ⟨W2, W3, hs2, hs3, hD3, hu3, hsz3⟩ := write_stores b Wm { s with sy := s.sy ++ [(k, blk s.bs k)] } k g o n c l hD2 hk hn hln hl1 hgb
  have hput : s.put k l = { s with bs := blkSet s.bs k (l ++ List.replicate (128 - l.length) 0), sy := s.sy ++ [(k, blk s.bs k)] } := by simp [Dk.put, hy]
  have hD3' : IsDisk W3 b (s.put k l) := by rw [hput]; exact hD3
  have h6' := hD1.c6
  have HLN := Lib.hid hln
  have HY := Lib.hid hy
  have HL := Lib.hid hl
  have HP := Lib.hid hput
  have HS := Lib.hid hsz3
  have HW := Lib.hid hWm
  have HW1 := Lib.hid hW1
  clear hln hy hl hl1 hput hsz3 hWm hz hD3 hD1 hm2 hW1
  go_enter Tryd.func32, Tryd.ntmps32
  go_wp2_with (first | (go_at_call 47; refine (good_any h0).mono ?_; rintro e w' ⟨rfl, rfl⟩) | (go_at_call 52; refine (act_any b W3 (s.put k l) hD3' hleft hleft2).mono ?_; rintro e w' ⟨rfl, hD', hu'⟩))
  refine wp_region_tail 11 (by kernel_rfl) (by kernel_rfl) W1 HW1.out ?_
  simp only [List.take_succ_cons, List.take_zero, List.drop_succ_cons, List.drop_zero]
  iterate 10 still_step
  refine wpStill_value rfl _ (exec_load 45 _ ⟨b, 5 + k * 128, none⟩ _ rfl rfl HLB.out) ?_
  refine wpStill_nil ?_
  go_wp2_with (first | (go_at_call 52; refine (act_any b W3 (s.put k l) hD3' hleft hleft2).mono ?_; rintro e w' ⟨rfl, hD', hu'⟩))
  go_ret
  refine ⟨rfl, hD', ?_⟩
  have hs := HS.out
  have hwm := HW.out
  have hw1 := HW1.out
  have u1 : Upd w.heap.size [b, s.bm] w W1 := by rw [hw1]; exact ((Upd.refl _ _ w).alloc (Nat.le_refl _) _).drew
  have u2 : Upd w.heap.size [b, s.bm] w Wm := by rw [hwm]; exact u1.putObj _ (.inr (by simp)) _
  exact (u2.trans ((hu3 _).mono (Nat.le_refl _) (by simp))).trans (hu'.mono (by rw [hs]; exact u2.size) (by simp))

theorem syGet_mem {sy : List (Nat × List UInt8)} {k : Nat} {b : List UInt8} (h : syGet sy k = some b) : (k, b) ∈ sy := by
  simp only [syGet, Option.map_eq_some_iff] at h
  obtain ⟨p, hp, rfl⟩ := h
  have h1 := List.find?_some hp
  have h2 := List.mem_of_find?_eq_some hp
  simp at h1
  subst h1
  exact h2

theorem write_any (b : Nat) (w : World) (s : Dk) (k : Int) (g o n c : Nat) (l : List UInt8) (hD : IsDisk w b s) (hd : s.down = false) (h0k : 0 ≤ k) (hk : k < 32) (hn : n ≤ 128) (hln : l.length = n)
    (hl : ∀ j u, (bvs l)[j]? = some u → w.cell? ((⟨g, o, none⟩ : Addr).add j) = some u) (hgb : g ≠ b) (hleft : 0 ≤ s.left) (hleft2 : s.left < 4611686018427387904) :
    Calls Tryd.prog 32 #[.pointer (some ⟨b, 0, none⟩), .int .i64 k, .slice (some ⟨g, o, none⟩) n c] w fun e w' =>
      e = .returned (.int .i64 s.actE) ∧ IsDisk w' b (s.put k.toNat l).act ∧ Upd w.heap.size [b, s.bm] w w' := by
  obtain ⟨k, rfl⟩ := Int.eq_ofNat_of_zero_le h0k
  have hk' : k < 32 := by omega
  cases hy : syGet s.sy k with
  | none => exact write_new b w s k g o n c l hD hd hk' hn hln hl hgb hleft hleft2 hy
  | some old => exact write_old b w s k g o n c l hD hd hk' hn hln hl hgb hleft hleft2 old hy (by rw [bvs_length]; exact (hD.map.len _ (syGet_mem hy)).1)

theorem write_arg (b : Nat) (w : World) (s : Dk) (k : Int) (a : Option Addr) (n c : Nat) (hD : IsDisk w b s) (hk : k < 0 ∨ 32 ≤ k ∨ 128 < n) (hn : n ≤ 1000000) :
    Calls Tryd.prog 32 #[.pointer (some ⟨b, 0, none⟩), .int .i64 k, .slice a n c] w fun e w' => e = .returned (.int .i64 1) ∧ w = w' := by
  have h0 := hD.c0
  by_cases k1 : k < 0
  · clear hk
    go_enter Tryd.func32, Tryd.ntmps32
    go_wp2_with (go_at_call 47; refine (good_any h0).mono ?_; rintro e w' ⟨rfl, rfl⟩)
    go_ret
    exact ⟨rfl, rfl⟩
  · by_cases k2 : 32 ≤ k
    · clear hk
      go_enter Tryd.func32, Tryd.ntmps32
      go_wp2_with (go_at_call 47; refine (good_any h0).mono ?_; rintro e w' ⟨rfl, rfl⟩)
      go_ret
      exact ⟨rfl, rfl⟩
    · have k3 : 128 < n := by omega
      clear hk
      go_enter Tryd.func32, Tryd.ntmps32
      go_wp2_with (go_at_call 47; refine (good_any h0).mono ?_; rintro e w' ⟨rfl, rfl⟩)
      go_ret
      exact ⟨rfl, rfl⟩
end Go.Proofs.YtgjjcbcmjbnfnaaDoor
