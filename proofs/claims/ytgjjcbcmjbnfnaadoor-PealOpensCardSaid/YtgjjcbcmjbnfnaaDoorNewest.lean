/- The walk of what finds the newest root and its contents; no statement of the seat is proved here. -/
import Derived.Test.YtgjjcbcmjbnfnaaDoorMax
namespace Go.Proofs.YtgjjcbcmjbnfnaaDoor
open Go.RowKit

/-- What a block at the place of a root is: zeros, or a root. -/
def RootSt (l : List UInt8) : Option Rt → Prop
  | none => ∀ j, j < 128 → l[j]? = some 0
  | some x => rno l = x.1 ∧ rsz l = x.2.1 ∧ rsm l = x.2.2 ∧ 0 < x.1 ∧ x.2.1 ≤ 1920 ∧ rbytes x.1 x.2.1 x.2.2 = l.take 28

def rts (rs : Nat → Option Rt) (k : Nat) : List Rt := (List.range k).filterMap rs
def rows (xs : List Rt) : List Value := xs.flatMap Rt.row
theorem rts_none {rs : Nat → Option Rt} {k : Nat} (h : rs k = none) : rts rs (k + 1) = rts rs k := by simp [rts, List.range_succ, h]
theorem rts_some {rs : Nat → Option Rt} {k : Nat} {x : Rt} (h : rs k = some x) : rts rs (k + 1) = rts rs k ++ [x] := by simp [rts, List.range_succ, h]
theorem rts_len (rs : Nat → Option Rt) (k : Nat) : (rts rs k).length ≤ k := by
  have := List.length_filterMap_le rs (List.range k); simpa [rts] using this
theorem rows_length (xs : List Rt) : (rows xs).length = xs.length * 3 := by
  induction xs with
  | nil => rfl
  | cons x xs ih => simp [rows, Rt.row, Nat.add_mul] at ih ⊢; omega
theorem rows_snoc (xs : List Rt) (x : Rt) : rows (xs ++ [x]) = rows xs ++ x.row := by simp [rows]

theorem rnum_zero (l : List UInt8) (h : ∀ c ∈ l, c = 0) : rnum l = 0 := by
  induction l with
  | nil => rfl
  | cons c l ih => rw [rnum, ih (fun x hx => h x (by simp [hx])), h c (by simp)]; rfl
theorem rnum_piece {l : List UInt8} (hl : l.length = 128) (h : ∀ j, j < 128 → l[j]? = some 0) (a : Nat) : rnum ((l.drop a).take 6) = 0 := by
  refine rnum_zero _ (fun c hc => ?_)
  obtain ⟨j, hj⟩ := List.getElem?_of_mem (List.mem_of_mem_drop (List.mem_of_mem_take hc))
  have hj2 : j < 128 := by rw [← hl]; exact (List.getElem?_eq_some_iff.1 hj).1
  rw [h j hj2] at hj
  exact (Option.some.inj hj).symm

def start1 (no : Nat) : Nat := 2 + 15 * (no % 2)
def imgOf (bs : List UInt8) (no : Nat) : List UInt8 := (bs.drop (128 * start1 no)).take (128 * 15)

/-- What the newest root says, and the contents it names. -/
def Newest (s : Dk) (rs : Nat → Option Rt) (m : Rt) (last mark : Nat) (ts : List ByteArray) : Prop :=
  (rts rs 2 = [] ∧ m = (0, 0, 0) ∧ last = 0 ∧ mark = 0 ∧ ts = []) ∨
  (∃ x0 xs, rts rs 2 = x0 :: xs ∧ m = bestK xs x0 ∧ m.2.1 = (cbytes last mark ts).length ∧ m.2.2 = sum48 (cbytes last mark ts) ∧ (imgOf s.bs m.1).take m.2.1 = cbytes last mark ts)

structure NwI (B : Nat) (W0 : World) (w : World) : Prop where
  z : w.heap[B]? = some (.cells [.int .i64 0, .int .i64 0, .int .i64 0].toArray 89)
  c : w.heap[B + 1]? = some (.cells [.int .i64 0, .int .i64 0, .slice none 0 0].toArray 91)
  b : Below B W0 w
  s : B + 2 ≤ w.heap.size

theorem NwI.below {B : Nat} {W0 : World} {w w' : World} (h : NwI B W0 w) (hb : Below (B + 2) w w') : NwI B W0 w' := by
  have hs := h.s
  exact ⟨(hb.block B (by omega)).trans h.z, (hb.block (B + 1) (by omega)).trans h.c, h.b.trans (hb.mono (by omega)), Nat.le_trans hs hb.size⟩

theorem NwI.fin {B : Nat} {W0 w W : World} (h : NwI B W0 w) (x : Rt) (a b : Int) (v : Value)
    (hW : (((((w.setCell ⟨B, 0, none⟩ (.int .i64 x.1)).setCell ⟨B, 1, none⟩ (.int .i64 x.2.1)).setCell ⟨B, 2, none⟩ (.int .i64 x.2.2)).setCell ⟨B + 1, 0, none⟩ (.int .i64 a)).setCell ⟨B + 1, 1, none⟩ (.int .i64 b)).setCell ⟨B + 1, 2, none⟩ v = W) :
    W.heap[B]? = some (.cells x.row.toArray 89) ∧ W.heap[B + 1]? = some (.cells [.int .i64 a, .int .i64 b, v].toArray 91) ∧ Below B W0 W ∧ (∀ {size n u xs}, w.ownsRow (B + 2) 9 size u n xs → W.ownsRow (B + 2) 9 size u n xs) := by
  subst hW
  have hU : Upd w.heap.size [B, B + 1] w ((((((w.setCell ⟨B, 0, none⟩ (.int .i64 x.1)).setCell ⟨B, 1, none⟩ (.int .i64 x.2.1)).setCell ⟨B, 2, none⟩ (.int .i64 x.2.2)).setCell ⟨B + 1, 0, none⟩ (.int .i64 a)).setCell ⟨B + 1, 1, none⟩ (.int .i64 b)).setCell ⟨B + 1, 2, none⟩ v) :=
    ((((((Upd.refl _ _ w).setCell _ (.inr (by simp)) _).setCell _ (.inr (by simp)) _).setCell _ (.inr (by simp)) _).setCell _ (.inr (by simp)) _).setCell _ (.inr (by simp)) _).setCell _ (.inr (by simp)) _
  have hs := h.s
  refine ⟨?_, ?_, h.b.trans (hU.mono (B' := B) (S' := []) (by omega) (fun y hy => by simp at hy; right; omega)).below, fun hown => own_upd hown hU (fun y hy => by simp at hy; omega)⟩
  · rw [Below.heap_setCell _ _ _ _ (by simp), Below.heap_setCell _ _ _ _ (by simp), Below.heap_setCell _ _ _ _ (by simp)]
    exact setCell_heap 2 _ (setCell_heap 1 _ (setCell_heap 0 _ h.z))
  · refine setCell_heap 2 _ (setCell_heap 1 _ (setCell_heap 0 _ (l := [.int .i64 0, .int .i64 0, .slice none 0 0]) ?_))
    rw [Below.heap_setCell _ _ _ _ (by simp), Below.heap_setCell _ _ _ _ (by simp), Below.heap_setCell _ _ _ _ (by simp)]
    exact h.c

theorem NwI.facts {B : Nat} {W0 w : World} (h : NwI B W0 w) :
    (w.cell? ⟨B, 0, none⟩ = some (.int .i64 0) ∧ w.cell? ⟨B, 1, none⟩ = some (.int .i64 0) ∧ w.cell? ⟨B, 2, none⟩ = some (.int .i64 0)) ∧
    (w.cell? ⟨B + 1, 0, none⟩ = some (.int .i64 0) ∧ w.cell? ⟨B + 1, 1, none⟩ = some (.int .i64 0) ∧ w.cell? ⟨B + 1, 2, none⟩ = some (.slice none 0 0)) ∧
    (∀ j, w.frozen? ⟨B, j, none⟩ = false) ∧ (∀ j, w.frozen? ⟨B + 1, j, none⟩ = false) :=
  ⟨⟨by rw [cell_of_heap h.z]; rfl, by rw [cell_of_heap h.z]; rfl, by rw [cell_of_heap h.z]; rfl⟩, ⟨by rw [cell_of_heap h.c]; rfl, by rw [cell_of_heap h.c]; rfl, by rw [cell_of_heap h.c]; rfl⟩,
    fun _ => frozen_of_heap h.z, fun _ => frozen_of_heap h.c⟩

theorem rows_get (xs : List Rt) : ∀ j x, xs[j]? = some x → (rows xs)[j * 3]? = some (.int .i64 x.1) ∧ (rows xs)[j * 3 + 1]? = some (.int .i64 x.2.1) ∧ (rows xs)[j * 3 + 2]? = some (.int .i64 x.2.2) := by
  induction xs with
  | nil => intro j x h; simp at h
  | cons y xs ih =>
    intro j x h
    have e : rows (y :: xs) = .int .i64 y.1 :: .int .i64 y.2.1 :: .int .i64 y.2.2 :: rows xs := rfl
    rw [e]
    cases j with
    | zero => simp at h; subst h; simp
    | succ j =>
      have h1 := ih j x (by simpa using h)
      rw [show (j + 1) * 3 = (j * 3) + 1 + 1 + 1 by omega]
      simpa [show j * 3 + 1 + 1 + 1 + 1 = (j * 3 + 1) + 1 + 1 + 1 by omega, show j * 3 + 1 + 1 + 1 + 2 = (j * 3 + 2) + 1 + 1 + 1 by omega] using h1

theorem RRow.of_own {w : World} {base g n cap : Nat} {xs : List Rt} (h : w.ownsRow base 89 3 (.slice (some ⟨g, 0, none⟩) n cap) n (rows xs)) : RRow w g xs ∧ n ≤ cap ∧ base ≤ g := by
  rcases h.2 with ⟨h0, _⟩ | ⟨g', cap', cur, hv, hb, hg, hnc, hcm, hcs, ht⟩
  · cases h0
  · cases hv
    refine ⟨fun j x hx => ?_, hnc, hb⟩
    obtain ⟨h0, h1, h2⟩ := rows_get xs j x hx
    have hc : ∀ i u, (rows xs)[i]? = some u → w.cell? ⟨g, i, none⟩ = some u := fun i u hu => by
      have := h.cells (g := g) rfl i u hu
      rwa [add_addr, Nat.zero_add] at this
    exact ⟨hc _ _ h0, hc _ _ h1, hc _ _ h2⟩

theorem rts_lt {s : Dk} {rs : Nat → Option Rt} (hrs : ∀ k, k < 2 → RootSt (blk s.bs k) (rs k)) : ∀ x ∈ rts rs 2, x.1 < 281474976710656 := by
  intro x hx
  obtain ⟨k, hk, he⟩ := List.mem_filterMap.1 hx
  have h := hrs k (by simpa using hk)
  rw [he] at h
  rw [← h.1]
  exact rnum_lt6 _

theorem imgOf_snoc {bs : List UInt8} {no k : Nat} (hk : k < 15) : (imgOf bs no).take (128 * (k + 1)) = (imgOf bs no).take (128 * k) ++ blk bs (start1 no + k) := by
  rw [show 128 * (k + 1) = 128 * k + 128 by omega, List.take_add]
  congr 1
  unfold imgOf blk
  rw [List.drop_take, List.take_take, List.drop_drop, show min 128 (128 * 15 - 128 * k) = 128 by omega, show 128 * (start1 no + k) = 128 * start1 no + 128 * k by omega]
theorem imgOf_length {bs : List UInt8} {no : Nat} (hl : bs.length = 4096) : (imgOf bs no).length = 1920 := by
  have hs : start1 no ≤ 17 := by unfold start1; omega
  simp [imgOf, hl]; omega

theorem set3_cell {w : World} {b g : Nat} (j : Nat) (x y z : Value) (h : b ≠ g) : (((w.setCell ⟨b, 0, none⟩ x).setCell ⟨b, 1, none⟩ y).setCell ⟨b, 2, none⟩ z).cell? ⟨g, j, none⟩ = w.cell? ⟨g, j, none⟩ := by
  rw [World.cell?_setCell_far _ _ _ _ h, World.cell?_setCell_far _ _ _ _ h, World.cell?_setCell_far _ _ _ _ h]

def NwS (R C g cap : Nat) (m : Rt) (c0 c1 c2 : Value) (l : List UInt8) (w : World) : Prop :=
  (w.cell? ⟨R, 0, none⟩ = some (.int .i64 m.1) ∧ w.cell? ⟨R, 1, none⟩ = some (.int .i64 m.2.1) ∧ w.cell? ⟨R, 2, none⟩ = some (.int .i64 m.2.2)) ∧
  (w.cell? ⟨C, 0, none⟩ = some c0 ∧ w.cell? ⟨C, 1, none⟩ = some c1 ∧ w.cell? ⟨C, 2, none⟩ = some c2) ∧ Hid (SlB w g 0 cap l)

theorem NwS.set3 {R C g cap : Nat} {m : Rt} {c0 c1 c2 : Value} {l : List UInt8} {w : World} (h : NwS R C g cap m c0 c1 c2 l w) (b : Nat) (x y z : Value) (h1 : b ≠ R) (h2 : b ≠ C) (h3 : b ≠ g) :
    NwS R C g cap m c0 c1 c2 l (((w.setCell ⟨b, 0, none⟩ x).setCell ⟨b, 1, none⟩ y).setCell ⟨b, 2, none⟩ z) := by
  refine ⟨?_, ?_, h.2.2.out.1, fun j u hj => ?_⟩
  · rw [set3_cell _ _ _ _ h1, set3_cell _ _ _ _ h1, set3_cell _ _ _ _ h1]; exact h.1
  · rw [set3_cell _ _ _ _ h2, set3_cell _ _ _ _ h2, set3_cell _ _ _ _ h2]; exact h.2.1
  · rw [set3_cell _ _ _ _ h3]; exact h.2.2.out.2 j u hj

theorem NwS.drew {R C g cap : Nat} {m : Rt} {c0 c1 c2 : Value} {l : List UInt8} {w : World} (h : NwS R C g cap m c0 c1 c2 l w) : NwS R C g cap m c0 c1 c2 l w.drew := h

theorem Tryd.info89 : (Tryd.prog.info? 89).map (fun i => (i.zero, i.size, i.bytes)) = some (some (.agg #[.int .i64 0, .int .i64 0, .int .i64 0]), 3, 24) := by kernel_rfl

set_option maxHeartbeats 4000000 in
set_option maxRecDepth 100000 in
theorem newest_any (b : Nat) (w : World) (s : Dk) (hD : IsDisk w b s) (rs : Nat → Option Rt) (hrs : ∀ k, k < 2 → RootSt (blk s.bs k) (rs k)) (m : Rt) (last mark : Nat) (ts : List ByteArray)
    (hN : Newest s rs m last mark ts) (hl : last < 281474976710656) (hm : mark < 281474976710656) (hts : ts.length ≤ 40) (h24 : ∀ s ∈ ts, s.size ≤ 24) (hG : GlobErr w) :
    Calls Tryd.prog 48 #[.pointer (some ⟨b, 0, none⟩)] w fun e w' => ∃ v, e = .returned (.tuple #[.agg m.row.toArray, .agg #[.int .i64 last, .int .i64 mark, v], .bool true]) ∧
      w'.ownsRow w.heap.size 9 1 v ts.length (strs ts) ∧ Below w.heap.size w w' := by
  obtain ⟨i0, hi, hz0, hz1, hz2⟩ := info_parts Tryd.info89
  have HI0 : Hid (NwI w.heap.size w ((w.alloc (.cells #[.int .i64 0, .int .i64 0, .int .i64 0] 89)).alloc (.cells #[.int .i64 0, .int .i64 0, .slice none 0 0] 91))) := by
    have hb := ((Below.refl w.heap.size w).alloc (Nat.le_refl _) (.cells #[.int .i64 0, .int .i64 0, .int .i64 0] 89)).alloc (by simp) (.cells #[.int .i64 0, .int .i64 0, .slice none 0 0] 91)
    exact ⟨by rw [Below.heap_alloc _ _ _ (by simp), alloc_new _ rfl], by rw [alloc_new _ (by simp)], hb, by simp⟩
  have HD := Lib.hid hD
  have HN := Lib.hid hN
  have HRS := Lib.hid hrs
  have hbl := hD.lt
  have hml := hD.map.lt
  clear hD hN hrs
  go_enter Tryd.func48, Tryd.ntmps48
  go_wp2_with fail
  go_loopw [5, 14] (fun v i wr => ∃ k : Nat, k ≤ 2 ∧ i = .int .i64 k ∧ Hid (NwI w.heap.size w wr) ∧ Hid (wr.ownsRow (w.heap.size + 2) 89 3 v (rts rs k).length (rows (rts rs k))))
    (fun _ i _ => 2 - (intOf i).toNat)
  case atStart => exact ⟨0, by omega, rfl, HI0, World.ownsRow_nil _ _ _ _⟩
  case round =>
    clear HI0
    obtain ⟨k, hk, rfl, HI, HO⟩ := hrel
    by_cases hlt : k < 2
    · have hDr : IsDisk wr b s := HD.out.keep (Upd.of_below HI.out.b []) hbl hml (by simp) (by simp)
      have HDr := Lib.hid hDr
      have hlen : (blk s.bs k).length = 128 := blk_length hDr.len (by omega)
      clear hDr
      cases hrk : rs k with
      | none =>
        have hz := HRS.out k hlt
        rw [hrk] at hz
        have hno : rno (blk s.bs k) = 0 := rnum_piece hlen hz 4
        have hsz : rsz (blk s.bs k) = 0 := rnum_piece hlen hz 10
        have HRt := Lib.hid (rootAt_any b wr s HDr.out k (by omega) (by omega) (by rw [Int.toNat_natCast, hsz]; omega))
        rw [Int.toNat_natCast, hno, hsz] at HRt
        go_wp2_with (go_at_call 60; refine HRt.out.mono ?_; rintro e w1 ⟨rfl, hb1⟩)
        have hb3 : Below wr.heap.size wr (w1.alloc (.cells #[.int .i64 0, .int .i64 0, .int .i64 (rsm (blk s.bs k))] 89)) := hb1.alloc hb1.size _
        have HB3 := Lib.hid hb3
        have hD1 := HDr.out.keep (Upd.of_below hb3 []) HDr.out.lt HDr.out.map.lt (by simp) (by simp)
        have hrd := read_any b _ s hD1 (k : Int) (by omega) (by omega)
        rw [Int.toNat_natCast] at hrd
        refine hrd.mono ?_
        rintro e w2 ⟨v, rfl, hown, hU, _⟩
        obtain ⟨g, cap, rfl⟩ := own_succ hown
        obtain ⟨hS, hg, hlen2⟩ := SlB.of_own hown
        have hb4 : Below wr.heap.size wr w2 := hb3.trans (hU.below.mono hb3.size)
        have hc : ∀ j, j < 128 → w2.cell? ⟨g, j, none⟩ = some (.int .u8 0) := fun j hj => by
          have := hS.2 j (bv 0) (by rw [bvs_getElem?, hz j hj]; rfl)
          simpa [bv] using this
        have hcap := hS.1
        clear hrd hD1 hS hU hown HRt hb3 hb1 hlen2
        go_wp2_with (go_at_call 61; refine (torn_any w2 g cap (by omega) hc).mono ?_; rintro e w3 ⟨rfl, hb5⟩)
        have hb6 : Below wr.heap.size wr w3 := hb4.trans (hb5.mono hb4.size)
        go_roundw
        case rel => exact ⟨k + 1, by omega, by go_num, HI.out.below (hb6.mono HI.out.s), by
            show World.ownsRow _ _ _ _ _ _ _
            rw [rts_none hrk]; exact own_upd HO.out (Upd.of_below hb6 []) (by simp)⟩
        case measure => simp [intOf]; omega
      | some x =>
        have hz := HRS.out k hlt
        rw [hrk] at hz
        obtain ⟨hno, hsz, hsm, hx0, hx1, hx2⟩ := hz
        have HRt := Lib.hid (rootAt_any b wr s HDr.out k (by omega) (by omega) (by rw [Int.toNat_natCast, hsz]; exact hx1))
        rw [Int.toNat_natCast, hno, hsz, hsm] at HRt
        have hdec : decide (0 < x.1 ∧ x.2.1 ≤ 1920 ∧ rbytes x.1 x.2.1 x.2.2 = (blk s.bs k).take 28) = true := by simp [hx0, hx1, hx2]
        rw [hdec] at HRt
        have hll := rts_len rs k
        clear hno hsz hsm hx0 hx1 hx2 hdec
        have HA : Hid (∀ w1, Below wr.heap.size wr w1 → ((w1.alloc (.cells x.row.toArray 89)).alloc (.cells x.row.toArray 89)).ownsRow (w.heap.size + 2) 89 3 u5 (rts rs k).length (rows (rts rs k)) ∧ Below wr.heap.size wr ((w1.alloc (.cells x.row.toArray 89)).alloc (.cells x.row.toArray 89))) := by
          intro w1 hb
          have hb' : Below wr.heap.size wr ((w1.alloc (.cells x.row.toArray 89)).alloc (.cells x.row.toArray 89)) := (hb.alloc hb.size _).alloc (by have := hb.size; simp; omega) _
          exact ⟨own_upd HO.out (Upd.of_below hb' []) (by simp), hb'⟩
        have HC : Hid (∀ (w1 : World) (j : Nat) (u : Value), x.row[j]? = some u → ((w1.alloc (.cells x.row.toArray 89)).alloc (.cells x.row.toArray 89)).cell? ((⟨w1.heap.size + 1, 0, none⟩ : Addr).add j) = some u) := by
          intro w1 j u hj
          rw [add_addr, Nat.zero_add, cell_of_heap (alloc_new _ (by simp))]
          exact hj
        have hss := HI.out.s
        go_wp2_with (first | (go_at_call 60; refine HRt.out.mono ?_; rintro e w1 ⟨rfl, hb1⟩; obtain ⟨hown1, hbA⟩ := HA.out w1 hb1) | (at_builtin; refine wpList_append_own _ rfl _ _ 113 rfl (w.heap.size + 2) 89 i0 _ 3 24 Tryd.underlying113 hi hz0 hz1 hz2 rfl (by decide) _ _ _ rfl hown1 ⟨w1.heap.size + 1, 0, none⟩ 1 1 x.row rfl rfl (HC.out w1) ?c1 ?c2 ?c3 ?c4 ?_))
        case c1 => simp [Rt.row, Value.oneCell']
        case c2 => simp [maxLen]; omega
        case c3 => omega
        case c4 => have := hb1.size; simp; omega
        intro v' w2 hown2 hgrow2 _
        have hb2 : Below (w.heap.size + 2) wr w2 := (hbA.mono hss).grown hgrow2 (by have := hbA.size; omega) (fun g hg => (hown1.lt g hg).1)
        clear hown1 hbA hgrow2
        go_wp2_with fail
        go_roundw
        case rel => exact ⟨k + 1, by omega, by go_num, HI.out.below hb2, by
            show World.ownsRow _ _ _ _ _ _ _
            rw [rts_some hrk, rows_snoc, List.length_append]; exact hown2⟩
        case measure => simp [intOf]; omega
    · have hk2 : k = 2 := by omega
      subst hk2
      rcases HN.out with ⟨hL, rfl, rfl, rfl, rfl⟩ | ⟨x0, xs, hL, hmx, hsz, hsm, himg⟩
      · rw [hL] at HO
        obtain ⟨av, cv, rfl⟩ := own_form HO.out
        obtain ⟨⟨z0, z1, z2⟩, ⟨d0, d1, d2⟩, fz, fd⟩ := HI.out.facts
        go_wp2_with fail
        generalize hW : (((((wr.setCell ⟨w.heap.size, 0, none⟩ (.int .i64 0)).setCell ⟨w.heap.size, 1, none⟩ (.int .i64 0)).setCell ⟨w.heap.size, 2, none⟩ (.int .i64 0)).setCell ⟨w.heap.size + 1, 0, none⟩ (.int .i64 0)).setCell ⟨w.heap.size + 1, 1, none⟩ (.int .i64 0)).setCell ⟨w.heap.size + 1, 2, none⟩ (.slice none 0 0) = W
        obtain ⟨f1, f2, f3, _⟩ := HI.out.fin (0, 0, 0) 0 0 _ hW
        clear hW z0 z1 z2 d0 d1 d2 fz fd
        refine bodyPost_ret (res_cct rfl _ W w.heap.size (w.heap.size + 1) _ _ rfl (load89 f1) rfl (load91 f2)) rfl ⟨_, rfl, World.ownsRow_nil _ _ _ _, f3⟩
      · rw [hL] at HO
        have hlt2 := rts_lt HRS.out
        rw [hL] at hlt2
        have hxl : xs.length ≤ 1 := by have := rts_len rs 2; rw [hL] at this; simpa using this
        obtain ⟨g, cap, rfl⟩ := own_succ HO.out
        obtain ⟨hR, hcap, hgb⟩ := RRow.of_own HO.out
        have HMx := Lib.hid (max_any wr g cap x0 xs hxl (by simpa using hcap) hR hlt2)
        have hmlt : m.1 < 281474976710656 := by rw [hmx]; exact best_lt xs x0 _ hlt2
        rw [← hmx] at HMx
        have HMX := Lib.hid hmx
        have HSZ := Lib.hid hsz
        have HSM := Lib.hid hsm
        have HIMG := Lib.hid himg
        have hlen : ((x0 :: xs).length : Int) = (xs.length + 1 : Nat) := by simp
        rw [show m.row.toArray = #[.int .i64 m.1, .int .i64 m.2.1, .int .i64 m.2.2] from rfl] at HMx
        clear hR hmx hsz hsm himg hlt2 hgb HN
        go_wp2_with (go_at_call 62; refine HMx.out.mono ?_; rintro e w3 ⟨rfl, hb3⟩)
        have HI4 : Hid (NwI w.heap.size w (w3.alloc (.cells m.row.toArray 89)) ∧ (w3.alloc (.cells m.row.toArray 89)).heap[w3.heap.size]? = some (.cells m.row.toArray 89) ∧ w3.heap.size + 1 ≤ (w3.alloc (.cells m.row.toArray 89)).heap.size) :=
          ⟨HI.out.below ((hb3.mono HI.out.s).alloc (by have := hb3.size; have := HI.out.s; omega) _), alloc_new _ rfl, by simp⟩
        have hs3 : w.heap.size + 2 ≤ w3.heap.size := by have := hb3.size; have := HI.out.s; omega
        clear hb3 HMx
        go_loopw [10, 43] (fun v i wr => ∃ k : Nat, k ≤ 15 ∧ i = .int .i64 k ∧ Hid (NwI w.heap.size w wr ∧ wr.heap[w3.heap.size]? = some (.cells m.row.toArray 89) ∧ w3.heap.size + 1 ≤ wr.heap.size) ∧ Hid (wr.ownsRow (w3.heap.size + 1) 5 1 v (128 * k) (bvs ((imgOf s.bs m.1).take (128 * k)))))
          (fun _ i _ => 15 - (intOf i).toNat)
        case atStart => exact ⟨0, by omega, rfl, HI4, World.ownsRow_nil _ _ _ _⟩
        case round =>
          clear HI4
          obtain ⟨k, hk, rfl, HI2, HO2⟩ := hrel
          by_cases hlt : k < 15
          · have t0 : wr.cell? ⟨w3.heap.size, 0, none⟩ = some (.int .i64 m.1) := by rw [cell_of_heap HI2.out.2.1]; rfl
            have hDr : IsDisk wr b s := HD.out.keep (Upd.of_below HI2.out.1.b []) hbl hml (by simp) (by simp)
            have hst : (2 + (m.1 : Int) % 2 * 15) = (start1 m.1 : Nat) := by unfold start1; omega
            have hs17 : start1 m.1 ≤ 17 := by unfold start1; omega
            have HRd := Lib.hid (read_any b wr s hDr ((start1 m.1 : Int) + k) (by omega) (by omega))
            rw [show ((start1 m.1 : Int) + k).toNat = start1 m.1 + k by omega] at HRd
            have HB := Lib.hid (HD.out.len)
            have HSt := Lib.hid (start_any ((m.1 : Int) % 2) wr (by omega) (by omega))
            rw [hst] at HSt
            have hss := HI2.out.1.s
            obtain ⟨i5, hi5, hy0, hy1, hy2⟩ := info_parts Tryd.info5
            clear hDr hst
            go_wp2_with (go_at_call 64; refine HSt.out.mono ?_; rintro e w4 ⟨rfl, rfl⟩)
            refine HRd.out.mono ?_
            rintro e w5 ⟨v5, rfl, hown5, hU5, _⟩
            obtain ⟨g5, cap5, rfl⟩ := own_succ hown5
            obtain ⟨hS5, hg5, hl5⟩ := SlB.of_own hown5
            have hown6 : w5.ownsRow (w3.heap.size + 1) 5 1 u10 (128 * k) (bvs ((imgOf s.bs m.1).take (128 * k))) := own_upd HO2.out hU5 (by simp)
            have hc5 : ∀ j u, (bvs (blk s.bs (start1 m.1 + k)))[j]? = some u → w5.cell? ((⟨g5, 0, none⟩ : Addr).add j) = some u := fun j u hj => by
              rw [add_addr]; exact hS5.2 j u hj
            have HI5 : Hid (NwI w.heap.size w w5 ∧ w5.heap[w3.heap.size]? = some (.cells m.row.toArray 89) ∧ w3.heap.size + 1 ≤ w5.heap.size) :=
              ⟨HI2.out.1.below (hU5.below.mono hss), (hU5.block _ (heap_lt HI2.out.2.1) (by simp)).trans HI2.out.2.1, Nat.le_trans HI2.out.2.2 hU5.size⟩
            have hs5 := HI5.out.2.2
            have HC5 := Lib.hid hc5
            have HL5 := Lib.hid hl5
            clear hS5 hU5 hown5 HRd HSt HO2 HI2 t0 hc5 hl5
            go_wp2_with (at_builtin; refine wpList_append_own _ rfl _ _ 63 rfl (w3.heap.size + 1) 5 i5 (.int .u8 0) 1 1 Tryd.underlying63 hi5 hy0 hy1 hy2 rfl (by decide) _ _ _ rfl hown6 ⟨g5, 0, none⟩ 128 cap5 (bvs (blk s.bs (start1 m.1 + k))) rfl ?c1 HC5.out (bvs_one _) ?c2 ?c3 ?c4 ?_)
            case c1 => simpa using HL5.out
            case c2 => simp [maxLen]; omega
            case c3 => omega
            case c4 => omega
            intro v6 w6 hown7 hgrow7 _
            have hb7 : Below (w3.heap.size + 1) w5 w6 := (Below.refl _ _).grown hgrow7 hs5 (fun g hg => (hown6.lt g hg).1)
            have HI7 : Hid (NwI w.heap.size w w6 ∧ w6.heap[w3.heap.size]? = some (.cells m.row.toArray 89) ∧ w3.heap.size + 1 ≤ w6.heap.size) :=
              ⟨HI5.out.1.below (hb7.mono (by omega)), (hb7.block _ (by omega)).trans HI5.out.2.1, Nat.le_trans HI5.out.2.2 hb7.size⟩
            clear hgrow7 hb7 hown6
            go_wp2_with fail
            go_roundw
            case rel => exact ⟨k + 1, by omega, by go_num, HI7, by
                show World.ownsRow _ _ _ _ _ _ _
                rw [imgOf_snoc hlt, bvs_append]; exact hown7⟩
            case measure => simp [intOf]; omega
          · have hk15 : k = 15 := by omega
            subst hk15
            obtain ⟨g5, cap5, rfl⟩ := own_succ HO2.out
            obtain ⟨hS5, hg5, hl5⟩ := SlB.of_own HO2.out
            have hS6 := hS5.take m.2.1
            have him := imgOf_length (no := m.1) HD.out.len
            have e6 : (List.take (128 * 15) (imgOf s.bs m.1)).take m.2.1 = cbytes last mark ts := by
              rw [show List.take (128 * 15) (imgOf s.bs m.1) = imgOf s.bs m.1 from List.take_of_length_le (by omega)]; exact HIMG.out
            rw [e6] at hS6
            have hm2 : m.2.1 ≤ 1920 := by
              have h1 := congrArg List.length e6
              rw [← HSZ.out, List.length_take, List.length_take] at h1
              omega
            have hle : m.2.1 ≤ cap5 := by rw [HSZ.out]; exact hS6.1
            have t0 : wr.cell? ⟨w3.heap.size, 0, none⟩ = some (.int .i64 m.1) := by rw [cell_of_heap HI2.out.2.1]; rfl
            have t1 : wr.cell? ⟨w3.heap.size, 1, none⟩ = some (.int .i64 m.2.1) := by rw [cell_of_heap HI2.out.2.1]; rfl
            have t2 : wr.cell? ⟨w3.heap.size, 2, none⟩ = some (.int .i64 m.2.2) := by rw [cell_of_heap HI2.out.2.1]; rfl
            have hG' : GlobErr wr := by obtain ⟨t, x, h⟩ := hG; exact ⟨t, x, (HI2.out.1.b.cell (p := ⟨0, 0, none⟩) (by show 0 < _; omega)).trans h⟩
            have hrd := reads_any wr g5 0 cap5 last mark ts hl hm hts h24 hS6 hG'
            have hle0 : (0 : Int) ≤ (m.2.1 : Nat) := by omega
            have hle1 : ((m.2.1 : Nat) : Int) ≤ (cap5 : Nat) := by omega
            rw [← HSZ.out] at hrd
            have HRd := Lib.hid hrd
            have HS6 := Lib.hid hS6
            clear hS5 hS6 him e6 hG' hrd hl5
            go_wp2_with (go_at_call 65; refine HRd.out.mono ?_; rintro e w8 ⟨v8, rfl, hown8, hb8⟩; obtain ⟨a8, c8, rfl⟩ := own_form hown8)
            obtain ⟨w9, hw9⟩ : ∃ w9, w9 = w8.alloc (.cells #[.int .i64 last, .int .i64 mark, .slice a8 ts.length c8] 91) := ⟨_, rfl⟩
            have hb9 : Below wr.heap.size wr w9 := by rw [hw9]; exact hb8.alloc hb8.size _
            have hss := HI2.out.1.s
            have hN9 : NwI w.heap.size w w9 := HI2.out.1.below (hb9.mono hss)
            have hown9 : w9.ownsRow (w.heap.size + 2) 9 1 (.slice a8 ts.length c8) ts.length (strs ts) := by rw [hw9]; exact ownsRow_base (hown8.alloc _) hss
            have hc9 : w9.heap[w8.heap.size]? = some (.cells [.int .i64 last, .int .i64 mark, .slice a8 ts.length c8].toArray 91) := by rw [hw9]; exact alloc_new _ rfl
            have hr9 : w9.heap[w3.heap.size]? = some (.cells m.row.toArray 89) := (hb9.block _ (heap_lt HI2.out.2.1)).trans HI2.out.2.1
            have hz8 : w.heap.size + 2 ≤ w8.heap.size := by have := hb8.size; omega
            have hg5w : g5 < wr.heap.size := (HO2.out.lt g5 rfl).2
            have hsl9 : SlB w9 g5 0 cap5 (cbytes last mark ts) := HS6.out.below hb9 hg5w
            rw [← hw9]
            have HN9 := Lib.hid hN9
            have HO9 := Lib.hid hown9
            have hS0 : NwS w3.heap.size w8.heap.size g5 cap5 m (.int .i64 last) (.int .i64 mark) (.slice a8 ts.length c8) (cbytes last mark ts) w9.drew :=
              ⟨⟨by rw [World.cell?_drew, cell_of_heap hr9]; rfl, by rw [World.cell?_drew, cell_of_heap hr9]; rfl, by rw [World.cell?_drew, cell_of_heap hr9]; rfl⟩, ⟨by rw [World.cell?_drew, cell_of_heap hc9]; rfl, by rw [World.cell?_drew, cell_of_heap hc9]; rfl, by rw [World.cell?_drew, cell_of_heap hc9]; rfl⟩, hsl9⟩
            have HK0 := Lib.hid hS0
            have hsum := hS0.2.2.out.brd.sum (by rw [← HSZ.out]; omega)
            rw [← HSZ.out, ← HSM.out] at hsum
            have HSum := Lib.hid hsum
            have hSa : NwS w3.heap.size w8.heap.size g5 cap5 m (.int .i64 last) (.int .i64 mark) (.slice a8 ts.length c8) (cbytes last mark ts) w9 := hS0
            have HK1 : Hid (NwS w3.heap.size w8.heap.size g5 cap5 m (.int .i64 last) (.int .i64 mark) (.slice a8 ts.length c8) (cbytes last mark ts) (((w9.setCell ⟨w.heap.size, 0, none⟩ (.int .i64 m.1)).setCell ⟨w.heap.size, 1, none⟩ (.int .i64 m.2.1)).setCell ⟨w.heap.size, 2, none⟩ (.int .i64 m.2.2)).drew) := (hSa.set3 _ _ _ _ (by omega) (by omega) (by omega)).drew
            have HK2 : Hid (NwS w3.heap.size w8.heap.size g5 cap5 m (.int .i64 last) (.int .i64 mark) (.slice a8 ts.length c8) (cbytes last mark ts) ((((((w9.setCell ⟨w.heap.size, 0, none⟩ (.int .i64 m.1)).setCell ⟨w.heap.size, 1, none⟩ (.int .i64 m.2.1)).setCell ⟨w.heap.size, 2, none⟩ (.int .i64 m.2.2)).setCell ⟨w.heap.size + 1, 0, none⟩ (.int .i64 last)).setCell ⟨w.heap.size + 1, 1, none⟩ (.int .i64 mark)).setCell ⟨w.heap.size + 1, 2, none⟩ (.slice a8 ts.length c8)).drew) := ((hSa.set3 w.heap.size (.int .i64 m.1) (.int .i64 m.2.1) (.int .i64 m.2.2) (by omega) (by omega) (by omega)).set3 (w.heap.size + 1) (.int .i64 last) (.int .i64 mark) (.slice a8 ts.length c8) (by omega) (by omega) (by omega)).drew
            obtain ⟨⟨z0, z1, z2⟩, ⟨d0, d1, d2⟩, fz, fd⟩ := hN9.facts
            clear hw9 hb9 hN9 hown9 hc9 hr9 hsl9 hown8 hb8 HS6 HRd t0 t1 t2 hS0 hsum hSa
            go_wp2_with fail
            refine wp_region_noPanic ?_
            refine wp_region_held_drew (S := NwS w3.heap.size w8.heap.size g5 cap5 m (.int .i64 last) (.int .i64 mark) (.slice a8 ts.length c8) (cbytes last mark ts)) (by kernel_rfl) HK0.out (fun hS0 => ?_)
            refine wpAnyH_take (i := 0) (oi := { dst := some 66, op := Op.load 89 (Operand.tmp 9), type := 89, pos := "image.go:149", after := #[], guard := none }) (v := ?_) rfl (by kernel_rfl) (by kernel_rfl) (by kernel_rfl) (fun _ _ _ h => h) (Or.inl ⟨by rfl, ?_⟩) hS0 ?_
            rotate_left
            · rintro w ⟨⟨y0, y1, y2⟩, ⟨y3, y4, y5⟩, _⟩; go_simp; with_reducible rfl
            simp only [Act.put, List.setIfInBounds_toArray, List.set_cons_zero, List.set_cons_succ]
            refine wpAnyH_take (i := 1) (oi := { dst := some 67, op := Op.load 91 (Operand.tmp 12), type := 91, pos := "image.go:149", after := #[{ on := 10, ground := Ground.gcOnly Departure.lateStores }], guard := none }) (v := ?_) rfl (by kernel_rfl) (by kernel_rfl) (by kernel_rfl) (fun _ _ _ h => h) (Or.inl ⟨by rfl, ?_⟩) hS0 ?_
            rotate_left
            · rintro w ⟨⟨y0, y1, y2⟩, ⟨y3, y4, y5⟩, _⟩; go_simp; with_reducible rfl
            simp only [Act.put, List.setIfInBounds_toArray, List.set_cons_zero, List.set_cons_succ]
            refine wpAnyH_take (i := 2) (oi := { dst := some 68, op := Op.move (Operand.tmp 13), type := 4, pos := "image.go:149", after := #[], guard := none }) (v := ?_) rfl (by kernel_rfl) (by kernel_rfl) (by kernel_rfl) (fun _ _ _ h => h) (Or.inl ⟨by rfl, ?_⟩) hS0 ?_
            rotate_left
            · rintro w ⟨⟨y0, y1, y2⟩, ⟨y3, y4, y5⟩, _⟩; go_simp; with_reducible rfl
            simp only [Act.put, List.setIfInBounds_toArray, List.set_cons_zero, List.set_cons_succ]
            refine wpAnyH_take (i := 3) (oi := { dst := some 69, op := Op.move (Operand.tmp 68), type := 4, pos := "image.go:149", after := #[{ on := 2, ground := Ground.data }], guard := none }) (v := ?_) rfl (by kernel_rfl) (by kernel_rfl) (by kernel_rfl) (fun _ _ _ h => h) (Or.inl ⟨by rfl, ?_⟩) hS0 ?_
            rotate_left
            · rintro w ⟨⟨y0, y1, y2⟩, ⟨y3, y4, y5⟩, _⟩; go_simp; with_reducible rfl
            simp only [Act.put, List.setIfInBounds_toArray, List.set_cons_zero, List.set_cons_succ]
            refine wpAnyH_take (i := 4) (oi := { dst := some 70, op := Op.move (Operand.tmp 10), type := 63, pos := "image.go:149", after := #[{ on := 3, ground := Ground.guard }], guard := some (3, true) }) (v := ?_) rfl (by kernel_rfl) (by kernel_rfl) (by kernel_rfl) (fun _ _ _ h => h) (Or.inl ⟨by rfl, ?_⟩) hS0 ?_
            rotate_left
            · rintro w ⟨⟨y0, y1, y2⟩, ⟨y3, y4, y5⟩, _⟩; go_simp; with_reducible rfl
            simp only [Act.put, List.setIfInBounds_toArray, List.set_cons_zero, List.set_cons_succ]
            refine wpAnyH_take (i := 6) (oi := { dst := some 72, op := Op.fieldAddr 89 (Operand.tmp 9) 2, type := 0, pos := "image.go:149", after := #[{ on := 3, ground := Ground.guard }, { on := 11, ground := Ground.gcOnly Departure.lateStores }], guard := some (3, true) }) (v := ?_) rfl (by kernel_rfl) (by kernel_rfl) (by kernel_rfl) (fun _ _ _ h => h) (Or.inl ⟨by rfl, ?_⟩) hS0 ?_
            rotate_left
            · rintro w ⟨⟨y0, y1, y2⟩, ⟨y3, y4, y5⟩, _⟩; go_simp; with_reducible rfl
            simp only [Act.put, List.setIfInBounds_toArray, List.set_cons_zero, List.set_cons_succ]
            refine wpAnyH_take (i := 7) (oi := { dst := some 73, op := Op.load 3 (Operand.tmp 72), type := 3, pos := "image.go:149", after := #[{ on := 6, ground := Ground.data }, { on := 3, ground := Ground.guard }, { on := 11, ground := Ground.gcOnly Departure.lateStores }], guard := some (3, true) }) (v := ?_) rfl (by kernel_rfl) (by kernel_rfl) (by kernel_rfl) (fun _ _ _ h => h) (Or.inl ⟨by rfl, ?_⟩) hS0 ?_
            rotate_left
            · rintro w ⟨⟨y0, y1, y2⟩, ⟨y3, y4, y5⟩, _⟩; go_simp; with_reducible rfl
            simp only [Act.put, List.setIfInBounds_toArray, List.set_cons_zero, List.set_cons_succ]
            refine wpAnyH_ready (rs := [5]) (by kernel_rfl) (by simp) ?_
            refine AllReadyH.cons (o := { dst := some 71, op := Op.call { callee := Callee.value (Operand.func 66), args := #[Operand.tmp 70], argTypes := #[63] }, type := 3, pos := "image.go:149", after := #[{ on := 4, ground := Ground.data }, { on := 3, ground := Ground.chain }, { on := 3, ground := Ground.guard }], guard := some (3, true) }) rfl (fun K hK => ?_) AllReadyH.nil
            go_simp
            refine HSum.out.mono ?_
            rintro e W ⟨rfl, rfl⟩
            refine hK.out _ _ hS0 (fun _ => ?_)
            clear hK K
            refine wpAnyH_take (i := 8) (oi := { dst := some 74, op := Op.binOp BinOp.eql 3 (Operand.tmp 71) (Operand.tmp 73) 3, type := 4, pos := "image.go:149", after := #[{ on := 5, ground := Ground.data }, { on := 7, ground := Ground.data }, { on := 3, ground := Ground.guard }, { on := 11, ground := Ground.gcOnly Departure.lateStores }], guard := some (3, true) }) (v := ?_) rfl (by kernel_rfl) (by kernel_rfl) (by kernel_rfl) (fun _ _ _ h => h) (Or.inl ⟨by rfl, ?_⟩) hS0 ?_
            rotate_left
            · rintro w ⟨⟨y0, y1, y2⟩, ⟨y3, y4, y5⟩, _⟩; go_simp; with_reducible rfl
            simp only [Act.put, List.setIfInBounds_toArray, List.set_cons_zero, List.set_cons_succ]
            refine wpAnyH_take (i := 9) (oi := { dst := some 75, op := Op.pick (Operand.tmp 69) (Operand.tmp 74) (Operand.const (Value.bool false)), type := 4, pos := "image.go:149", after := #[{ on := 3, ground := Ground.data }, { on := 8, ground := Ground.data }, { on := 11, ground := Ground.gcOnly Departure.lateStores }], guard := none }) (v := ?_) rfl (by kernel_rfl) (by kernel_rfl) (by kernel_rfl) (fun _ _ _ h => h) (Or.inl ⟨by rfl, ?_⟩) hS0 ?_
            rotate_left
            · rintro w ⟨⟨y0, y1, y2⟩, ⟨y3, y4, y5⟩, _⟩; go_simp; with_reducible rfl
            simp only [Act.put, List.setIfInBounds_toArray, List.set_cons_zero, List.set_cons_succ]
            refine wpAnyH_ready (rs := [10]) (by kernel_rfl) (by simp) ?_
            refine AllReadyH.cons (o := { dst := none, op := Op.store 89 (Operand.tmp 2) (Operand.tmp 66), type := 0, pos := "image.go:149", after := #[{ on := 0, ground := Ground.data }, { on := 5, ground := Ground.chain }, { on := 0, ground := Ground.phase }, { on := 1, ground := Ground.textOnly Departure.lateStores }, { on := 2, ground := Ground.textOnly Departure.lateStores }, { on := 3, ground := Ground.textOnly Departure.lateStores }, { on := 4, ground := Ground.textOnly Departure.lateStores }, { on := 5, ground := Ground.textOnly Departure.lateStoresUnsure }, { on := 6, ground := Ground.textOnly Departure.lateStores }, { on := 7, ground := Ground.textOnly Departure.lateStores }, { on := 8, ground := Ground.textOnly Departure.lateStores }, { on := 9, ground := Ground.textOnly Departure.lateStores }], guard := none }) rfl (fun K hK => ?_) AllReadyH.nil
            go_simp
            refine hK.out _ _ HK1.out (fun _ => ?_)
            clear hK K
            refine wpAnyH_ready (rs := [11]) (by kernel_rfl) (by simp) ?_
            refine AllReadyH.cons (o := { dst := none, op := Op.store 91 (Operand.tmp 3) (Operand.tmp 67), type := 0, pos := "image.go:149", after := #[{ on := 1, ground := Ground.data }, { on := 10, ground := Ground.chain }, { on := 0, ground := Ground.phase }, { on := 1, ground := Ground.phase }, { on := 2, ground := Ground.textOnly Departure.lateStores }, { on := 3, ground := Ground.textOnly Departure.lateStores }, { on := 4, ground := Ground.textOnly Departure.lateStores }, { on := 5, ground := Ground.textOnly Departure.lateStoresUnsure }, { on := 6, ground := Ground.textOnly Departure.lateStores }, { on := 7, ground := Ground.textOnly Departure.lateStores }, { on := 8, ground := Ground.textOnly Departure.lateStores }, { on := 9, ground := Ground.textOnly Departure.lateStores }, { on := 10, ground := Ground.phase }], guard := none }) rfl (fun K hK => ?_) AllReadyH.nil
            go_simp
            refine hK.out _ _ HK2.out (fun _ => ?_)
            clear hK K
            refine wpAnyH_ready (rs := [12]) (by kernel_rfl) (by simp) ?_
            refine AllReadyH.cons (o := { dst := some 4, op := Op.assign (Operand.tmp 75), type := 4, pos := "image.go:149", after := #[{ on := 9, ground := Ground.data }, { on := 11, ground := Ground.chain }, { on := 0, ground := Ground.phase }, { on := 1, ground := Ground.phase }, { on := 2, ground := Ground.phase }, { on := 3, ground := Ground.phase }, { on := 4, ground := Ground.phase }, { on := 5, ground := Ground.phase }, { on := 6, ground := Ground.phase }, { on := 7, ground := Ground.phase }, { on := 8, ground := Ground.phase }, { on := 9, ground := Ground.phase }, { on := 10, ground := Ground.phase }, { on := 11, ground := Ground.phase }], guard := none }) rfl (fun K hK => ?_) AllReadyH.nil
            go_simp
            refine hK.out _ _ HK2.out (fun _ => ?_)
            clear hK K
            refine wpAnyH_done (by kernel_rfl) ?_ _
            refine NoPanic.normal ?_
            clear z0 z1 z2 d0 d1 d2 fz fd HK0 HK1 HK2 HSum hS0
            go_wp2_with fail
            generalize hW : (((((w9.setCell ⟨w.heap.size, 0, none⟩ (.int .i64 m.1)).setCell ⟨w.heap.size, 1, none⟩ (.int .i64 m.2.1)).setCell ⟨w.heap.size, 2, none⟩ (.int .i64 m.2.2)).setCell ⟨w.heap.size + 1, 0, none⟩ (.int .i64 last)).setCell ⟨w.heap.size + 1, 1, none⟩ (.int .i64 mark)).setCell ⟨w.heap.size + 1, 2, none⟩ (.slice a8 ts.length c8) = W
            obtain ⟨f1, f2, f3, f4⟩ := HN9.out.fin m last mark _ hW
            have f5 := ownsRow_base (base' := w.heap.size) (f4 HO9.out) (by omega)
            exact bodyPost_ret (res_cct rfl _ W.drew w.heap.size (w.heap.size + 1) _ _ rfl (load89 f1) rfl (load91 f2)) rfl ⟨_, rfl, f5, f3.drew⟩
end Go.Proofs.YtgjjcbcmjbnfnaaDoor
