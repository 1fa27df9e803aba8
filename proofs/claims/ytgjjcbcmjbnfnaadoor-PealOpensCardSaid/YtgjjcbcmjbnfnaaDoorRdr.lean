/- The walks of the reader's functions; no statement of the seat is proved here. -/
import Derived.Test.YtgjjcbcmjbnfnaaDoorRootW
namespace Go.Proofs.YtgjjcbcmjbnfnaaDoor
open Go.RowKit

/-- A slice of bytes that reads as l, at an address that is there. -/
def SlB (w : World) (g o cap : Nat) (l : List UInt8) : Prop := l.length ≤ cap ∧ ∀ j u, (bvs l)[j]? = some u → w.cell? ⟨g, o + j, none⟩ = some u

theorem SlB.below {B g o cap : Nat} {w w' : World} {l : List UInt8} (h : SlB w g o cap l) (hb : Below B w w') (hg : g < B) : SlB w' g o cap l :=
  ⟨h.1, fun j u hj => (hb.cell (p := ⟨g, o + j, none⟩) hg).trans (h.2 j u hj)⟩

theorem SlB.brd {w : World} {g o cap : Nat} {l : List UInt8} (h : SlB w g o cap l) : BRd w (.slice (some ⟨g, o, none⟩) l.length cap) l :=
  ⟨_, cap, rfl, h.1, fun j u hj => ⟨g, o, rfl, h.2 j u hj⟩⟩

theorem SlB.toStr {w : World} {g o cap : Nat} {l : List UInt8} (h : SlB w g o cap l) : (convert 63 9 (.slice (some ⟨g, o, none⟩) l.length cap)).run Tryd.prog w = .ok (.string ⟨l.toArray⟩) w := by
  have hr := run_convert_bytes_arg (P := Tryd.prog) w 63 5 Tryd.underlying63 Tryd.underlying5 g o l.length cap (l.map (fun c => (c.toNat : Int))) (by simp) (fun i hi => by
    have := h.2 i (bv l[i]) (by rw [bvs_getElem?]; simp [hi])
    rw [this]
    simp [bv, List.getD, hi]) 9 Tryd.underlying9
  have e : strOfNums (l.map (fun c => (c.toNat : Int))) = ⟨l.toArray⟩ := by simp [strOfNums, Function.comp_def]
  rw [hr, e]

/-- The reader at block r holds the slice at g. -/
def Rdr (w : World) (r g o cap : Nat) (l : List UInt8) : Prop := w.heap[r]? = some (.cells [.slice (some ⟨g, o, none⟩) l.length cap].toArray 134) ∧ SlB w g o cap l

theorem take_any (w : World) (r g o cap : Nat) (l : List UInt8) (n : Int) (h0 : 0 ≤ n) (hn : n ≤ l.length) (hR : Rdr w r g o cap l) (hrg : r ≠ g) :
    Calls Tryd.prog 89 #[.pointer (some ⟨r, 0, none⟩), .int .i64 n] w fun e w' => e = .returned (.slice (some ⟨g, o, none⟩) n.toNat cap) ∧
      (∃ o', Rdr w' r g o' (cap - n.toNat) (l.drop n.toNat)) ∧ SlB w' g o cap (l.take n.toNat) ∧ Upd w.heap.size [r] w w' := by
  obtain ⟨n, rfl⟩ := Int.eq_ofNat_of_zero_le h0
  obtain ⟨hr, hs⟩ := hR
  have c0 : w.cell? ⟨r, 0, none⟩ = some (.slice (some ⟨g, o, none⟩) l.length cap) := by rw [cell_of_heap hr]; rfl
  have f0 : w.frozen? ⟨r, 0, none⟩ = false := frozen_of_heap hr
  have hcap := hs.1
  have hn' : n ≤ l.length := by omega
  have HH := Lib.hid hr
  have HS := Lib.hid hs
  rw [Int.toNat_natCast]
  have hfin : ∀ o', (cap = n ∨ o' = o + n) → Hid ((∃ o2, Rdr (w.setCell ⟨r, 0, none⟩ (.slice (some ⟨g, o', none⟩) (l.length - n) (cap - n))) r g o2 (cap - n) (l.drop n)) ∧ SlB (w.setCell ⟨r, 0, none⟩ (.slice (some ⟨g, o', none⟩) (l.length - n) (cap - n))) g o cap (l.take n) ∧
      Upd w.heap.size [r] w (w.setCell ⟨r, 0, none⟩ (.slice (some ⟨g, o', none⟩) (l.length - n) (cap - n)))) := by
    intro o' ho
    have hcell : ∀ j, (w.setCell ⟨r, 0, none⟩ (.slice (some ⟨g, o', none⟩) (l.length - n) (cap - n))).cell? ⟨g, j, none⟩ = w.cell? ⟨g, j, none⟩ := fun j => World.cell?_of_block (Below.heap_setCell _ _ _ _ (fun e => hrg e.symm))
    refine ⟨⟨o', ?_, ?_, ?_⟩, ⟨?_, ?_⟩, (Upd.refl _ _ _).setCell _ (.inr (by simp)) _⟩
    · rw [setCell_heap 0 _ hr]; simp
    · simp; omega
    · intro j u hj
      rw [hcell]
      have hj1 : (bvs l)[n + j]? = some u := by rw [bvs_drop, List.getElem?_drop] at hj; exact hj
      have hlt : n + j < l.length := by have := (List.getElem?_eq_some_iff.1 hj1).1; simpa using this
      rcases ho with ho | rfl
      · omega
      · rw [Nat.add_assoc]; exact hs.2 _ _ hj1
    · have := hs.1; simp; omega
    · intro j u hj
      rw [hcell]
      rw [bvs_take, List.getElem?_take] at hj
      split at hj
      · exact hs.2 j u hj
      · cases hj
  have HF := Lib.hid hfin
  clear hr hs hfin
  go_enter Tryd.func89, Tryd.ntmps89
  go_wp2
  · have hcn : cap = n := by simpa using ‹cap = (n : Int).toNat›
    subst hcn
    go_ret
    have h1 := (HF.out o (.inl rfl)).out
    simp only [Nat.sub_self] at h1
    exact ⟨rfl, by simpa using h1⟩
  · have hcn : ¬ cap = n := by assumption
    go_ret
    exact ⟨rfl, (HF.out (o + n) (.inr rfl)).out⟩

/-! ### numbers -/

def rnum : List UInt8 → Nat
  | [] => 0
  | c :: l => c.toNat + 256 * rnum l

theorem rnum_snoc (l : List UInt8) (c : UInt8) : rnum (l ++ [c]) = rnum l + c.toNat * 256 ^ l.length := by
  induction l with
  | nil => simp [rnum]
  | cons x l ih => simp only [List.cons_append, rnum, ih, List.length_cons, Nat.pow_succ]; rw [Nat.mul_add, Nat.mul_comm (256 ^ l.length) 256, Nat.mul_left_comm]; omega
theorem rnum_lt (l : List UInt8) : rnum l < 256 ^ l.length := by
  induction l with
  | nil => simp [rnum]
  | cons x l ih => have := x.toNat_lt; simp only [rnum, List.length_cons, Nat.pow_succ]; omega

theorem rnum_num (k : Nat) : ∀ n, n < 256 ^ k → rnum (numFrom n k) = n := by
  induction k with
  | zero => intro n h; simp at h; subst h; rfl
  | succ k ih =>
    intro n h
    rw [numFrom, rnum, ih (n / 256) (by rw [Nat.pow_succ] at h; omega)]
    have : (UInt8.ofNat n).toNat = n % 256 := by simp
    omega

theorem bits_or_i64_nat (a b : Nat) (ha : a < 4611686018427387904) (hb : b < 4611686018427387904) : bits .or .i64 (a : Int) (b : Int) = ((a ||| b : Nat) : Int) := by
  have hx : a ||| b < 2 ^ 62 := Nat.or_lt_two_pow (by omega) (by omega)
  have h1 : (BitVec.ofInt 64 (a : Int)).toNat = a := by
    rw [BitVec.ofInt_natCast, BitVec.toNat_ofNat]; exact Nat.mod_eq_of_lt (by omega)
  have h2 : (BitVec.ofInt 64 (b : Int)).toNat = b := by
    rw [BitVec.ofInt_natCast, BitVec.toNat_ofNat]; exact Nat.mod_eq_of_lt (by omega)
  show IntKind.i64.wrap ((BitVec.ofInt 64 (a : Int) ||| BitVec.ofInt 64 (b : Int)).toNat : Int) = _
  rw [BitVec.toNat_or, h1, h2, IntKind.wrap_i64]
  omega

theorem rnum_round (l : List UInt8) (k : Nat) (hk : k < 6) (h : k < l.length) :
    bits .or .i64 ((rnum (l.take k) : Nat) : Int) (wrap64 (((l[k]).toNat : Int) * 2 ^ (8 * k))) = ((rnum (l.take (k + 1)) : Nat) : Int) := by
  have hc : l[k].toNat < 256 := l[k].toNat_lt
  have hlen : (l.take k).length = k := by simp; omega
  have hr := rnum_lt (l.take k)
  rw [hlen] at hr
  have hp : (256 : Nat) ^ k = 2 ^ (8 * k) := by rw [Nat.pow_mul]
  rw [hp] at hr
  have hp5 : (2 : Nat) ^ (8 * k) ≤ 2 ^ 40 := Nat.pow_le_pow_right (by decide) (by omega)
  have hm : l[k].toNat * 2 ^ (8 * k) ≤ 255 * 2 ^ 40 := Nat.mul_le_mul (by omega) hp5
  have e1 : wrap64 (((l[k]).toNat : Int) * 2 ^ (8 * k)) = ((l[k].toNat * 2 ^ (8 * k) : Nat) : Int) := by
    rw [show ((l[k].toNat : Int) * 2 ^ (8 * k)) = ((l[k].toNat * 2 ^ (8 * k) : Nat) : Int) by rw [Int.natCast_mul, Int.natCast_pow]; rfl]
    unfold wrap64
    omega
  rw [e1, bits_or_i64_nat _ _ (by omega) (by omega), List.take_succ_eq_append_getElem h, rnum_snoc, hlen, hp, Nat.or_comm, ← Nat.shiftLeft_eq, ← Nat.shiftLeft_add_eq_or_of_lt hr, Nat.add_comm]

set_option maxHeartbeats 400000 in
set_option maxRecDepth 10000 in
theorem rnumber_any (w : World) (r g o cap : Nat) (l : List UInt8) (hn : 6 ≤ l.length) (hR : Rdr w r g o cap l) (hrg : r ≠ g) :
    Calls Tryd.prog 77 #[.pointer (some ⟨r, 0, none⟩)] w fun e w' => e = .returned (.int .i64 (rnum (l.take 6))) ∧
      (∃ o', Rdr w' r g o' (cap - 6) (l.drop 6)) ∧ Upd w.heap.size [r] w w' := by
  have hlen : (l.take 6).length = 6 := by simp; omega
  go_enter Tryd.func77, Tryd.ntmps77
  go_wp2_with (go_at_call 89; refine (take_any w r g o cap l 6 (by omega) (by omega) hR hrg).mono ?_; rintro e w1 ⟨rfl, ⟨o', hR'⟩, hS, hU⟩)
  go_loop [3, 9] (fun x i => ∃ k : Nat, k ≤ 6 ∧ i = .int .i64 k ∧ x = .int .i64 (rnum (l.take k)))
    (fun _ i => 6 - (intOf i).toNat)
  case atStart => exact ⟨0, by omega, rfl, rfl⟩
  case round =>
    obtain ⟨k, hk, rfl, rfl⟩ := hrel
    by_cases hlt : k < 6
    · have hkl : k < l.length := by omega
      have hcell : w1.cell? ⟨g, o + k, none⟩ = some (.int .u8 ((l[k]).toNat : Int)) := hS.2 k (bv (l[k])) (by rw [bvs_getElem?, List.getElem?_take, if_pos (by simpa using hlt)]; simp [hkl])
      have hlt8 : (l[k]).toNat < 256 := (l[k]).toNat_lt
      have HR := Lib.hid hR'
      have HS := Lib.hid hS
      clear hR' hS
      have HN := Lib.hid (rnum_round l k hlt hkl)
      go_wp2
      go_round
      case rel => exact ⟨k + 1, by omega, by go_num, by rw [← HN.out]⟩
      case measure => simp [intOf]; omega
    · have hk6 : k = 6 := by omega
      subst hk6
      have HR := Lib.hid hR'
      have HS := Lib.hid hS
      clear hR' hS
      go_wp2
      go_ret
      exact ⟨rfl, ⟨_, HR.out⟩, hU⟩

/-! ### strings -/

set_option maxHeartbeats 400000 in
theorem rtext_any (w : World) (r g o cap : Nat) (l : List UInt8) (s : ByteArray) (hs : s.size ≤ 24) (hpre : l.take (s.size + 1) = txt s.data.toList) (hn : s.size + 1 ≤ l.length) (hR : Rdr w r g o cap l) (hrg : r ≠ g) :
    Calls Tryd.prog 82 #[.pointer (some ⟨r, 0, none⟩)] w fun e w' => e = .returned (.string s) ∧
      (∃ o', Rdr w' r g o' (cap - (s.size + 1)) (l.drop (s.size + 1))) ∧ Upd w.heap.size [r] w w' := by
  have h0 : l[0]? = some (UInt8.ofNat s.size) := by
    have := congrArg (fun x => x[0]?) hpre
    simpa [txt] using this
  have hd : (l.drop 1).take s.size = s.data.toList := by
    have := congrArg (fun x => x.drop 1) hpre
    rw [List.drop_take] at this
    simpa [txt] using this
  have hbyte : ∀ w1 : World, SlB w1 g o cap (l.take (Int.toNat 1)) → w1.cell? ⟨g, o, none⟩ = some (.int .u8 (s.size : Int)) := by
    intro w1 h
    have := h.2 0 (.int .u8 (s.size : Int)) (by
      rw [bvs_getElem?]
      simp [h0, bv]; omega)
    simpa using this
  have hls : s.data.toList.length = s.size := rfl
  have HD := Lib.hid hd
  have HB := Lib.hid hbyte
  have HL := Lib.hid hls
  clear hd hbyte h0 hpre hls
  go_enter Tryd.func82, Tryd.ntmps82
  go_wp2_with (have _t := HB; go_at_call 89; refine (take_any w r g o cap l 1 (by omega) (by omega) hR hrg).mono ?_; rintro e w1 ⟨rfl, ⟨o1, hR1⟩, hS1, hU1⟩; have hc0 := HB.out w1 hS1; clear HB)
  refine (take_any w1 r g o1 _ _ (s.size : Int) (by omega) (by simp; omega) hR1 hrg).mono ?_
  rintro e w2 ⟨rfl, ⟨o2, hR2⟩, hS2, hU2⟩
  have hS3 : SlB w2 g o1 (cap - 1) s.data.toList := by
    have := hS2
    rw [Int.toNat_natCast, show Int.toNat 1 = 1 from rfl, HD.out] at this
    exact this
  have hcv := hS3.toStr
  rw [HL.out] at hcv
  have hR3 : Hid (∃ o', Rdr w2 r g o' (cap - (s.size + 1)) (l.drop (s.size + 1))) := by
    refine ⟨o2, ?_⟩
    have := hR2
    rw [Int.toNat_natCast, show Int.toNat 1 = 1 from rfl, List.drop_drop, show cap - 1 - s.size = cap - (s.size + 1) by omega, Nat.add_comm 1] at this
    exact this
  have hU : Hid (Upd w.heap.size [r] w w2) := hU1.trans (hU2.mono hU1.size (by simp))
  clear hS2 hR2 hS3 hS1 hR1 hR hU1 hU2
  go_wp2
  go_ret
  exact ⟨rfl, hR3.out, hU⟩
end Go.Proofs.YtgjjcbcmjbnfnaaDoor
