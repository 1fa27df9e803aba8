/- The walks of what writes the contents and the roots as bytes; no statement of the seat is proved here. -/
import Derived.Test.YtgjjcbcmjbnfnaaDoorNums
import Derived.Lib.AppendStr
import Derived.Deep.RegionHeld3
import Derived.Maps.AppendAt
namespace Go.Proofs.YtgjjcbcmjbnfnaaDoor
open Go.RowKit

/-- A slice of bytes that reads as l. -/
def BRd (w : World) (v : Value) (l : List UInt8) : Prop :=
  ∃ a c, v = .slice a l.length c ∧ l.length ≤ c ∧ ∀ j u, (bvs l)[j]? = some u → ∃ g o, a = some ⟨g, o, none⟩ ∧ w.cell? ⟨g, o + j, none⟩ = some u

theorem ownsRow_base {w : World} {base base' : Nat} {e : TypeId} {size : Nat} {v : Value} {n : Nat} {xs : List Value} (h : w.ownsRow base e size v n xs) (hb : base' ≤ base) : w.ownsRow base' e size v n xs := by
  refine ⟨h.1, ?_⟩
  rcases h.2 with h2 | ⟨g, cap, cur, hv, hg, r⟩
  · exact .inl h2
  · exact .inr ⟨g, cap, cur, hv, by omega, r⟩

theorem BRd.of_own {w : World} {base n : Nat} {v : Value} {l : List UInt8} (h : w.ownsRow base 5 1 v n (bvs l)) : BRd w v l := by
  have hn : l.length = n := by simpa using h.1
  rcases h.2 with ⟨rfl, rfl⟩ | ⟨g, cap, cur, rfl, hb, hg, hnc, hcm, hcs, ht⟩
  · obtain rfl : l = [] := List.eq_nil_of_length_eq_zero hn
    exact ⟨none, 0, rfl, Nat.le_refl _, by simp⟩
  · refine ⟨_, cap, by rw [hn], by omega, fun j u hu => ⟨g, 0, rfl, ?_⟩⟩
    have := h.cells (g := g) rfl j u hu
    rw [add_addr] at this
    exact this

theorem BRd.sum {w : World} {v : Value} {l : List UInt8} (h : BRd w v l) (hn : l.length ≤ 1000000) :
    Calls Tryd.prog 66 #[v] w fun e w' => e = .returned (.int .i64 (sum48 l)) ∧ w = w' := by
  obtain ⟨a, c, rfl, hc, hr⟩ := h
  refine sum_any w a _ c l rfl hn ?_
  intro j hj
  have hu : (bvs l)[j]? = some (bv (l[j]?.getD 0)) := by rw [bvs_getElem?]; simp [hj]
  exact hr j _ hu

/-- A string with its length before it. -/
def txt (s : List UInt8) : List UInt8 := UInt8.ofNat s.length :: s

theorem strCells_eq (s : ByteArray) : Lib.strCells s = bvs s.data.toList := rfl

set_option maxHeartbeats 400000 in
theorem text_any (base : Nat) (w : World) (v : Value) (m : Nat) (xs : List Value) (s : ByteArray) (hs : s.size ≤ 24) (hown : w.ownsRow base 5 1 v m xs) (hb : base ≤ w.heap.size) (hm : m ≤ 100000) :
    Calls Tryd.prog 84 #[v, .string s] w fun e w' => ∃ v', e = .returned v' ∧ w'.ownsRow base 5 1 v' (m + (s.size + 1)) (xs ++ bvs (txt s.data.toList)) ∧ Below base w w' ∧ base ≤ w'.heap.size := by
  obtain ⟨i0, hi, hz0, hz1, hz2⟩ := info_parts Tryd.info5
  have tok1 : True := trivial
  go_enter Tryd.func84, Tryd.ntmps84
  go_wp2_with (at_builtin; have _t := tok1; refine wpList_append_own _ rfl _ _ 63 rfl base 5 i0 (.int .u8 0) 1 1 Tryd.underlying63 hi hz0 hz1 hz2 rfl (by decide) _ _ _ rfl (hown.alloc _) ⟨w.heap.size, 0, none⟩ 1 1 [.int .u8 (s.size : Int)] rfl rfl (cell_one_new _ _ _) (by simp [Value.oneCell']) (by simp [maxLen]; omega) (by omega) (by simp; omega) ?_)
  intro v1 w1 hown1 hgrow1 _
  clear tok1
  have hsz := hgrow1.size
  have hb1 : Below base w w1 := ((Below.refl base w).alloc hb _).grown hgrow1 (by simp; omega) (fun g hg => (hown.lt g hg).1)
  have hbs1 : base ≤ w1.heap.size := by simp at hsz; omega
  clear hgrow1 hsz
  go_wp2_with (at_builtin; refine Lib.wpList_append_own_string _ rfl _ _ 63 9 rfl base 5 i0 Tryd.underlying63 Tryd.underlying9 hi hz0 hz1 hz2 _ _ _ rfl hown1 s rfl (by simp [maxLen]; omega) (by omega) hbs1 ?_)
  intro v2 w2 hown2 hgrow2 _
  have hsz := hgrow2.size
  have hb2 : Below base w w2 := hb1.grown hgrow2 hbs1 (fun g hg => (hown1.lt g hg).1)
  have hbs2 : base ≤ w2.heap.size := by omega
  have hown3 : Hid (w2.ownsRow base 5 1 v2 (m + (s.size + 1)) (xs ++ bvs (txt s.data.toList))) := by
    show w2.ownsRow base 5 1 v2 (m + (s.size + 1)) (xs ++ bvs (txt s.data.toList))
    have e : bvs (txt s.data.toList) = [.int .u8 (s.size : Int)] ++ bvs s.data.toList := by
      simp [txt, bvs, bv]; omega
    rw [e, ← List.append_assoc, ← strCells_eq, show m + (s.size + 1) = m + 1 + s.size by omega]
    simpa using hown2
  clear hown2 hown1 hgrow2
  go_wp2
  go_ret
  exact ⟨v2, rfl, hown3, hb2, hbs2⟩

/-! ### contents -/

/-- A slice of strings that reads as ts. -/
def SRd (w : World) (v : Value) (ts : List ByteArray) : Prop :=
  ∃ a c, v = .slice a ts.length c ∧ ts.length ≤ c ∧ ∀ j s, ts[j]? = some s → ∃ g o, a = some ⟨g, o, none⟩ ∧ w.cell? ⟨g, o + j, none⟩ = some (.string s)

def txts (ts : List ByteArray) : List UInt8 := ts.flatMap (fun s => txt s.data.toList)
def cbytes (last mark : Nat) (ts : List ByteArray) : List UInt8 := num6 last ++ num6 mark ++ num6 ts.length ++ txts ts

theorem txts_snoc (ts : List ByteArray) (k : Nat) (h : k < ts.length) : txts (ts.take (k + 1)) = txts (ts.take k) ++ txt ts[k].data.toList := by
  rw [List.take_succ_eq_append_getElem h, txts, txts, List.flatMap_append]; simp
theorem txt_length (s : ByteArray) : (txt s.data.toList).length = s.size + 1 := by simp [txt]
theorem txts_le (ts : List ByteArray) (h : ∀ s ∈ ts, s.size ≤ 24) : (txts ts).length ≤ 25 * ts.length := by
  induction ts with
  | nil => simp [txts]
  | cons x ts ih =>
    have h1 := h x (by simp)
    have h2 := ih (fun s hs => h s (by simp [hs]))
    simp only [txts, List.flatMap_cons, List.length_append, txt_length, List.length_cons] at h2 ⊢
    omega

theorem keep3 {B n0 : Nat} {W0 w w' : World} {x0 x1 x2 : Value} (h : (w.cell? ⟨n0, 0, none⟩ = some x0 ∧ w.cell? ⟨n0, 1, none⟩ = some x1 ∧ w.cell? ⟨n0, 2, none⟩ = some x2) ∧ Below B W0 w ∧ B ≤ w.heap.size)
    (hb : Below B w w') (hs : B ≤ w'.heap.size) (hn : n0 < B) :
    (w'.cell? ⟨n0, 0, none⟩ = some x0 ∧ w'.cell? ⟨n0, 1, none⟩ = some x1 ∧ w'.cell? ⟨n0, 2, none⟩ = some x2) ∧ Below B W0 w' ∧ B ≤ w'.heap.size :=
  ⟨⟨(hb.cell (p := ⟨n0, 0, none⟩) hn).trans h.1.1, (hb.cell (p := ⟨n0, 1, none⟩) hn).trans h.1.2.1, (hb.cell (p := ⟨n0, 2, none⟩) hn).trans h.1.2.2⟩, h.2.1.trans hb, hs⟩

set_option maxHeartbeats 4000000 in
set_option maxRecDepth 100000 in
theorem cwritten_any (w : World) (last mark : Nat) (v : Value) (ts : List ByteArray) (hl : last < 4611686018427387904) (hm : mark < 4611686018427387904) (hts : ts.length ≤ 40) (h24 : ∀ s ∈ ts, s.size ≤ 24) (hr : SRd w v ts) :
    Calls Tryd.prog 67 #[.agg #[.int .i64 last, .int .i64 mark, v]] w fun e w' => ∃ v', e = .returned v' ∧ w'.ownsRow w.heap.size 5 1 v' (cbytes last mark ts).length (bvs (cbytes last mark ts)) ∧ Below w.heap.size w w' := by
  obtain ⟨a, c, rfl, hc, hr⟩ := hr
  generalize hw1 : w.alloc (.cells #[.int .i64 last, .int .i64 mark, .slice a ts.length c] 91) = W0
  have hs0 : W0.heap.size = w.heap.size + 1 := by rw [← hw1]; simp
  have k0 : W0.cell? ⟨w.heap.size, 0, none⟩ = some (.int .i64 last) := by rw [← hw1]; simp
  have k1 : W0.cell? ⟨w.heap.size, 1, none⟩ = some (.int .i64 mark) := by rw [← hw1]; simp
  have k2 : W0.cell? ⟨w.heap.size, 2, none⟩ = some (.slice a ts.length c) := by rw [← hw1]; simp
  have hb0 : Below w.heap.size w W0 := by rw [← hw1]; exact (Below.refl _ _).alloc (Nat.le_refl _) _
  have HS0 := Lib.hid hs0
  have HW1 := Lib.hid hw1
  clear hs0 hw1
  have HR := Lib.hid hr
  clear hr
  go_enter Tryd.func67, Tryd.ntmps67
  go_wp2_with fail
  rw [HW1.out]
  go_region_held3 (fun w' => (w'.cell? ⟨w.heap.size, 0, none⟩ = some (.int .i64 last) ∧ w'.cell? ⟨w.heap.size, 1, none⟩ = some (.int .i64 mark) ∧ w'.cell? ⟨w.heap.size, 2, none⟩ = some (.slice a ts.length c)) ∧ Below (w.heap.size + 1) W0 w' ∧ w.heap.size + 1 ≤ w'.heap.size)
    (first | assumption | exact ⟨⟨k0, k1, k2⟩, (Below.refl _ _).drew, by rw [World.size_drew, HS0.out]; exact Nat.le_refl _⟩)
    (first | (have _t := hown2; go_at_call 83; refine (number_any (w.heap.size + 1) _ _ _ _ (ts.length : Int) (by omega) (by omega) hown2 (by have h := ‹(_ ∧ _ ∧ _) ∧ Below _ W0 _ ∧ _›; exact h.2.2) (by omega)).mono ?_; rintro e w' ⟨v3, rfl, hown3, hb, hs⟩; have hS := keep3 ‹(_ ∧ _ ∧ _) ∧ Below _ W0 _ ∧ _› hb hs (by omega); clear hb hs) | (have _t := hown1; go_at_call 83; refine (number_any (w.heap.size + 1) _ _ _ _ (mark : Int) (by omega) (by omega) hown1 (by have h := ‹(_ ∧ _ ∧ _) ∧ Below _ W0 _ ∧ _›; exact h.2.2) (by omega)).mono ?_; rintro e w' ⟨v2, rfl, hown2, hb, hs⟩; have hS := keep3 ‹(_ ∧ _ ∧ _) ∧ Below _ W0 _ ∧ _› hb hs (by omega); clear hb hs) | (go_at_call 83; refine (number_any (w.heap.size + 1) _ (.slice none 0 0) 0 [] (last : Int) (by omega) (by omega) (World.ownsRow_nil _ _ _ _) (by have h := ‹(_ ∧ _ ∧ _) ∧ Below _ W0 _ ∧ _›; exact h.2.2) (by omega)).mono ?_; rintro e w' ⟨v1, rfl, hown1, hb, hs⟩; have hS := keep3 ‹(_ ∧ _ ∧ _) ∧ Below _ W0 _ ∧ _› hb hs (by omega); clear hb hs))
  obtain ⟨⟨q0, q1, q2⟩, hbB, hsB⟩ := hS
  have HP : Hid (w'.ownsRow (w.heap.size + 1) 5 1 v3 (18 + (txts (ts.take 0)).length) (bvs (num6 last ++ num6 mark ++ num6 ts.length ++ txts (ts.take 0)))) := by
    show w'.ownsRow (w.heap.size + 1) 5 1 v3 (18 + (txts (ts.take 0)).length) (bvs (num6 last ++ num6 mark ++ num6 ts.length ++ txts (ts.take 0)))
    simpa [txts, bvs_append] using hown3
  clear hown3 hown1 hown2
  obtain ⟨w1, hw1⟩ : ∃ w1, w1 = w' := ⟨_, rfl⟩
  subst hw1
  go_wp2
  go_loopw [3, 19] (fun b i wr => ∃ k : Nat, k ≤ ts.length ∧ i = .int .i64 k ∧ Hid (wr.ownsRow (w.heap.size + 1) 5 1 b (18 + (txts (ts.take k)).length) (bvs (num6 last ++ num6 mark ++ num6 ts.length ++ txts (ts.take k)))) ∧ Below (w.heap.size + 1) W0 wr ∧ w.heap.size + 1 ≤ wr.heap.size)
    (fun _ i _ => ts.length - (intOf i).toNat)
  case atStart => exact ⟨0, Nat.zero_le _, rfl, HP, hbB, hsB⟩
  case round =>
    obtain ⟨k, hk, rfl, hown, hbk, hsk⟩ := hrel
    clear HP q0 q1 q2 hbB hsB
    by_cases hlt : k < ts.length
    · obtain ⟨g, o, rfl, hcell⟩ := HR.out k ts[k] (by simp [hlt])
      have hgl : g < w.heap.size := World.block_lt_of_cell? w _ hcell
      have hcw : wr.cell? ⟨g, o + k, none⟩ = some (.string ts[k]) := by
        rw [hbk.cell (p := ⟨g, o + k, none⟩) (by show g < _; omega), hb0.cell (p := ⟨g, o + k, none⟩) hgl]; exact hcell
      have hlen : 18 + (txts (ts.take k)).length ≤ 100000 := by
        have h1 := txts_le (ts.take k) (fun s hs => h24 s (List.mem_of_mem_take hs))
        simp at h1; omega
      have hsz := h24 ts[k] (List.getElem_mem hlt)
      have hown' := hown.out
      go_wp2_with (go_at_call 84; refine (text_any (w.heap.size + 1) _ _ _ _ ts[k] hsz hown' hsk hlen).mono ?_; rintro e w2 ⟨v4, rfl, hown4, hb4, hs4⟩)
      have hown5 : Hid (w2.ownsRow (w.heap.size + 1) 5 1 v4 (18 + (txts (ts.take (k + 1))).length) (bvs (num6 last ++ num6 mark ++ num6 ts.length ++ txts (ts.take (k + 1))))) := by
        show w2.ownsRow (w.heap.size + 1) 5 1 v4 (18 + (txts (ts.take (k + 1))).length) (bvs (num6 last ++ num6 mark ++ num6 ts.length ++ txts (ts.take (k + 1))))
        rw [txts_snoc ts k hlt, List.length_append, txt_length, ← Nat.add_assoc, ← List.append_assoc, bvs_append]
        exact hown4
      go_roundw
      case rel => exact ⟨k + 1, by omega, by go_num, hown5, hbk.trans hb4, hs4⟩
      case measure => simp [intOf]; omega
    · have hk' : k = ts.length := by omega
      subst hk'
      have hown' : Hid (wr.ownsRow w.heap.size 5 1 u3 (cbytes last mark ts).length (bvs (cbytes last mark ts))) := by
        show wr.ownsRow w.heap.size 5 1 u3 (cbytes last mark ts).length (bvs (cbytes last mark ts))
        have h1 := hown.out
        rw [List.take_of_length_le (Nat.le_refl _)] at h1
        have e : (cbytes last mark ts).length = 18 + (txts ts).length := by simp [cbytes]; omega
        rw [e]
        exact ownsRow_base h1 (by omega)
      go_wp2
      go_ret
      exact ⟨_, rfl, hown', hb0.trans (hbk.mono (by omega))⟩
end Go.Proofs.YtgjjcbcmjbnfnaaDoor
