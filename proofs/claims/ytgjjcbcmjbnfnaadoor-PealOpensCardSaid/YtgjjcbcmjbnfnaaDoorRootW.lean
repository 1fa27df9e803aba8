/- The walk of what writes a root as bytes; no statement of the seat is proved here. -/
import Derived.Test.YtgjjcbcmjbnfnaaDoorConts
import Derived.Lib.SlBytesConst
namespace Go.Proofs.YtgjjcbcmjbnfnaaDoor
open Go.RowKit

def magic : List UInt8 := [80, 69, 65, 76]
/-- A root's bytes ahead of its own sum. -/
def rhead (no size sm : Nat) : List UInt8 := magic ++ num6 no ++ num6 size ++ num6 sm
def rbytes (no size sm : Nat) : List UInt8 := rhead no size sm ++ num6 (sum48 (rhead no size sm))
theorem rhead_length (no size sm : Nat) : (rhead no size sm).length = 22 := by simp [rhead, magic]
theorem rbytes_length (no size sm : Nat) : (rbytes no size sm).length = 28 := by simp [rbytes, rhead_length]

theorem own_lit (w : World) (l : List Value) (e n base : Nat) (hb : base ≤ w.heap.size) (hn : l.length = n) (hm : n ≤ 1000000) :
    (w.alloc (.cells l.toArray e)).ownsRow base e 1 (.slice (some ⟨w.heap.size, 0, none⟩) n n) n l :=
  ⟨by simp [hn], .inr ⟨w.heap.size, n, l.toArray, rfl, hb, heap_alloc_new w _, Nat.le_refl _, by simp [maxLen]; omega, by simp [hn], by simp [← hn]⟩⟩

theorem own_drew {w : World} {base e size n : Nat} {v : Value} {xs : List Value} (h : w.ownsRow base e size v n xs) : w.drew.ownsRow base e size v n xs := h

/-- What 'number' has, k bytes being written, where it began with a slice without spare capacity. -/
def NRel (base m : Nat) (olds : List Value) (g n k : Nat) (b : Value) (wr : World) : Prop :=
  (k = 0 ∧ b = .slice (some ⟨g, 0, none⟩) m m ∧ ∀ j u, olds[j]? = some u → wr.cell? ((⟨g, 0, none⟩ : Addr).add j) = some u) ∨ (0 < k ∧ wr.ownsRow base 5 1 b (m + k) (olds ++ bvs (numFrom n k)))

set_option maxHeartbeats 800000 in
set_option maxRecDepth 10000 in
theorem number_lit (base : Nat) (w : World) (g m : Nat) (olds : List Value) (n : Int) (h0 : 0 ≤ n) (hn : n < 9223372036854775808) (hm0 : olds.length = m) (hr : ∀ j u, olds[j]? = some u → w.cell? ((⟨g, 0, none⟩ : Addr).add j) = some u) (hb : base ≤ w.heap.size) (hm : m ≤ 100000) :
    Calls Tryd.prog 83 #[.slice (some ⟨g, 0, none⟩) m m, .int .i64 n] w fun e w' => ∃ v', e = .returned v' ∧ w'.ownsRow base 5 1 v' (m + 6) (olds ++ bvs (num6 n.toNat)) ∧ Below base w w' ∧ base ≤ w'.heap.size := by
  obtain ⟨i0, hi, hz0, hz1, hz2⟩ := info_parts Tryd.info5
  obtain ⟨n, rfl⟩ := Int.eq_ofNat_of_zero_le h0
  rw [Int.toNat_natCast]
  have hn' : n < 9223372036854775808 := by omega
  have HM := Lib.hid hm0
  have hrel0 : Hid (NRel base m olds g n 0 (.slice (some ⟨g, 0, none⟩) m m) w) := .inl ⟨rfl, rfl, hr⟩
  clear h0 hn hm0 hr
  go_enter Tryd.func83, Tryd.ntmps83
  go_wp2
  go_loopw [0, 1, 5] (fun b x i wr => ∃ k : Nat, k ≤ 6 ∧ i = .int .i64 k ∧ x = .int .i64 ((n : Int) / 256 ^ k) ∧ Hid (NRel base m olds g n k b wr) ∧ Below base w wr ∧ base ≤ wr.heap.size)
    (fun _ _ i _ => 6 - (intOf i).toNat)
  case atStart => exact ⟨0, by omega, rfl, by simp, hrel0, Below.refl _ _, hb⟩
  case round =>
    clear hrel0
    obtain ⟨k, hk, rfl, rfl, hr, hbl, hbs⟩ := hrel
    have hnn : (0 : Int) ≤ (n : Int) / 256 ^ k := Int.ediv_nonneg (by omega) (Int.pow_nonneg (by decide))
    have e : bvs [UInt8.ofNat (n / 256 ^ k)] = [.int .u8 ((n : Int) / 256 ^ k % 256)] := by simp [bvs, bv]
    have HE := Lib.hid e
    clear e
    by_cases hlt : k < 6
    · rcases hr.out with ⟨rfl, rfl, hc⟩ | ⟨hk0, hr⟩
      · have hc' : ∀ j u, olds[j]? = some u → (wr.alloc (.cells #[.int .u8 ((n : Int) / 256 ^ 0 % 256)] 5)).cell? ((⟨g, 0, none⟩ : Addr).add j) = some u := by
          intro j u hj
          have h1 := hc j u hj
          rw [World.cell?_alloc_lt _ _ _ (World.block_lt_of_cell? _ _ h1)]; exact h1
        have HC := Lib.hid hc'
        clear hc hc'
        simp only [Int.pow_zero, Int.ediv_one] at HC HE
        go_wp2_with (at_builtin; refine wpList_append_grows _ rfl _ _ 63 rfl 5 i0 (.int .u8 0) 1 1 Tryd.underlying63 hi hz0 hz1 hz2 rfl (by decide) (some ⟨g, 0, none⟩) m m olds rfl (by simp) (by simp [HM.out]) (fun b hb => by cases hb; exact HC.out) ⟨wr.heap.size, 0, none⟩ 1 1 [.int .u8 ((n : Int) % 256)] rfl rfl (cell_one_new _ _ _) (by simp [Value.oneCell']) (by omega) (by simp [maxLen]; omega) (by omega) ?_)
        intro v' w1 hown1 hgrow1
        have hsz := hgrow1.size
        have hb1 : Below base w w1 := (hbl.alloc hbs _).grown hgrow1 (by simp; omega) (fun g hg => by cases hg)
        have hbs1 : base ≤ w1.heap.size := by simp at hsz; omega
        have hown2 : Hid (NRel base m olds g n 1 v' w1) := by
          refine .inr ⟨by omega, ?_⟩
          have h1 := ownsRow_base (base' := base) hown1 (by omega)
          have h2 := HE.out
          simpa [numFrom, bvs, bv] using h1
        clear hown1 hgrow1 hsz
        go_wp2
        go_roundw
        case rel => exact ⟨1, by omega, by go_num, by simp, hown2, hb1, hbs1⟩
        case measure => simp [intOf]
      · go_wp2_with (at_builtin; refine wpList_append_own _ rfl _ _ 63 rfl base 5 i0 (.int .u8 0) 1 1 Tryd.underlying63 hi hz0 hz1 hz2 rfl (by decide) _ _ _ rfl (hr.alloc _) ⟨wr.heap.size, 0, none⟩ 1 1 [.int .u8 ((n : Int) / 256 ^ k % 256)] rfl rfl (cell_one_new _ _ _) (by simp [Value.oneCell']) (by simp [maxLen]; omega) (by omega) (by simp; omega) ?_)
        intro v' w1 hown1 hgrow1 _
        have hsz := hgrow1.size
        have hb1 : Below base w w1 := (hbl.alloc hbs _).grown hgrow1 (by simp; omega) (fun g hg => (hr.lt g hg).1)
        have hbs1 : base ≤ w1.heap.size := by simp at hsz; omega
        have hown2 : Hid (NRel base m olds g n (k + 1) v' w1) := by
          refine .inr ⟨by omega, ?_⟩
          rw [numFrom_snoc, bvs_append, HE.out]
          exact hown1
        clear hown1 hgrow1 hsz
        go_wp2
        go_roundw
        case rel => exact ⟨k + 1, by omega, by go_num, by rw [Int.pow_succ, ← Int.ediv_ediv_of_nonneg (Int.pow_nonneg (by decide))], hown2, hb1, hbs1⟩
        case measure => simp [intOf]; omega
    · have hk6 : k = 6 := by omega
      subst hk6
      have hown : Hid (wr.ownsRow base 5 1 u0 (m + 6) (olds ++ bvs (num6 n))) := by
        rcases hr.out with ⟨h, _⟩ | ⟨_, h⟩
        · omega
        · exact h
      go_wp2
      go_ret
      exact ⟨_, rfl, hown, hbl, hbs⟩

set_option maxHeartbeats 4000000 in
set_option maxRecDepth 100000 in
theorem rwritten_any (w : World) (no size sm : Nat) (h1 : no < 4611686018427387904) (h2 : size < 4611686018427387904) (h3 : sm < 4611686018427387904) :
    Calls Tryd.prog 69 #[.agg #[.int .i64 no, .int .i64 size, .int .i64 sm]] w fun e w' => ∃ v', e = .returned v' ∧ w'.ownsRow w.heap.size 5 1 v' 28 (bvs (rbytes no size sm)) ∧ Below w.heap.size w w' ∧ v' ≠ .slice none 0 0 := by
  generalize hw1 : w.alloc (.cells #[.int .i64 no, .int .i64 size, .int .i64 sm] 89) = W0
  have hs0 : W0.heap.size = w.heap.size + 1 := by rw [← hw1]; simp
  have k0 : W0.cell? ⟨w.heap.size, 0, none⟩ = some (.int .i64 no) := by rw [← hw1]; simp
  have k1 : W0.cell? ⟨w.heap.size, 1, none⟩ = some (.int .i64 size) := by rw [← hw1]; simp
  have k2 : W0.cell? ⟨w.heap.size, 2, none⟩ = some (.int .i64 sm) := by rw [← hw1]; simp
  have hb0 : Below w.heap.size w W0 := by rw [← hw1]; exact (Below.refl _ _).alloc (Nat.le_refl _) _
  let S : World → Prop := fun w' => (w'.cell? ⟨w.heap.size, 0, none⟩ = some (.int .i64 no) ∧ w'.cell? ⟨w.heap.size, 1, none⟩ = some (.int .i64 size) ∧ w'.cell? ⟨w.heap.size, 2, none⟩ = some (.int .i64 sm)) ∧ Below (w.heap.size + 1) W0 w' ∧ w.heap.size + 1 ≤ w'.heap.size
  have hk0 : S W0.drew := ⟨⟨k0, k1, k2⟩, (Below.refl _ _).drew, by rw [World.size_drew, hs0]; exact Nat.le_refl _⟩
  have hk1 : ∀ o, S (W0.alloc o).drew := fun o => keep3 (w := W0.drew) hk0 ((Below.refl _ W0.drew).alloc (by rw [World.size_drew, hs0]; exact Nat.le_refl _) o) (by simp [hs0]) (by omega)
  have kc : (convert 63 63 (.slice (some ⟨W0.heap.size, 0, none⟩) 4 4)).run Tryd.prog (W0.alloc (.cells #[.int .u8 80, .int .u8 69, .int .u8 65, .int .u8 76] 5)).drew =
      .ok (.slice (some ⟨W0.heap.size, 0, none⟩) 4 4) (W0.alloc (.cells #[.int .u8 80, .int .u8 69, .int .u8 65, .int .u8 76] 5 (4, 5))).drew :=
    Lib.run_convert_bytes_const (P := Tryd.prog) W0.drew 63 5 #[.int .u8 80, .int .u8 69, .int .u8 65, .int .u8 76] 4 4 Tryd.underlying63 Tryd.underlying5
  have hr1 : ∀ j u, (bvs magic)[j]? = some u → ((W0.alloc (.cells #[.int .u8 80, .int .u8 69, .int .u8 65, .int .u8 76] 5 (4, 5))).drew).cell? ((⟨W0.heap.size, 0, none⟩ : Addr).add j) = some u := by
    intro j u hj
    rw [add_addr, World.cell?_drew, Nat.zero_add]
    rw [cell_of_row _ W0.heap.size j #[.int .u8 80, .int .u8 69, .int .u8 65, .int .u8 76] 5 (4, 5) (alloc_new _ rfl)]
    simpa [bvs, magic, bv] using hj
  have HS0 := Lib.hid hs0
  have HW1 := Lib.hid hw1
  have HK0 := Lib.hid hk0
  have HK1 := Lib.hid hk1
  have HR1 := Lib.hid hr1
  clear hs0 hw1 hk0 hk1 hr1
  go_enter Tryd.func69, Tryd.ntmps69
  go_wp2_with fail
  rw [HW1.out]
  refine wp_region_noPanic ?_
  refine wp_region_held_drew (S := (fun w' => (w'.cell? ⟨w.heap.size, 0, none⟩ = some (.int .i64 no) ∧ w'.cell? ⟨w.heap.size, 1, none⟩ = some (.int .i64 size) ∧ w'.cell? ⟨w.heap.size, 2, none⟩ = some (.int .i64 sm)) ∧ Below (w.heap.size + 1) W0 w' ∧ w.heap.size + 1 ≤ w'.heap.size)) (by kernel_rfl) HK0.out (fun hS0 => ?_)
  refine wpAnyH_take (i := 2) (v := ?_) rfl (by kernel_rfl) (by kernel_rfl) (by kernel_rfl) (fun _ _ _ h => h) (Or.inl ⟨by rfl, ?_⟩) hS0 ?_
  rotate_left
  · intro w hSw; go_simp; with_reducible rfl
  refine wpAnyH_take (i := 3) (v := ?_) rfl (by kernel_rfl) (by kernel_rfl) (by kernel_rfl) (fun _ _ _ h => h) (Or.inl ⟨by rfl, ?_⟩) hS0 ?_
  rotate_left
  · intro w hSw; go_simp; with_reducible rfl
  refine wpAnyH_take (i := 5) (v := ?_) rfl (by kernel_rfl) (by kernel_rfl) (by kernel_rfl) (fun _ _ _ h => h) (Or.inl ⟨by rfl, ?_⟩) hS0 ?_
  rotate_left
  · intro w hSw; go_simp; with_reducible rfl
  refine wpAnyH_take (i := 6) (v := ?_) rfl (by kernel_rfl) (by kernel_rfl) (by kernel_rfl) (fun _ _ _ h => h) (Or.inl ⟨by rfl, ?_⟩) hS0 ?_
  rotate_left
  · intro w hSw; go_simp; with_reducible rfl
  refine wpAnyH_take (i := 8) (v := ?_) rfl (by kernel_rfl) (by kernel_rfl) (by kernel_rfl) (fun _ _ _ h => h) (Or.inl ⟨by rfl, ?_⟩) hS0 ?_
  rotate_left
  · intro w hSw; go_simp; with_reducible rfl
  refine wpAnyH_take (i := 9) (v := ?_) rfl (by kernel_rfl) (by kernel_rfl) (by kernel_rfl) (fun _ _ _ h => h) (Or.inl ⟨by rfl, ?_⟩) hS0 ?_
  rotate_left
  · intro w hSw; go_simp; with_reducible rfl
  refine wpAnyH_ready (rs := [0]) (by kernel_rfl) (by simp) ?_
  refine AllReadyH.cons rfl (fun K hK => ?_) AllReadyH.nil
  go_simp
  refine hK.out _ _ (HK1.out _) (fun hS1 => ?_)
  clear hK K
  refine wpAnyH_ready (rs := [1]) (by kernel_rfl) (by simp) ?_
  refine AllReadyH.cons rfl (fun K hK => ?_) AllReadyH.nil
  go_simp
  refine hK.out _ _ (HK1.out _) (fun hS2 => ?_)
  clear hK K
  refine wpAnyH_ready (rs := [4]) (by kernel_rfl) (by simp) ?_
  refine AllReadyH.cons rfl (fun K hK => ?_) AllReadyH.nil
  go_simp
  refine (number_lit (w.heap.size + 1) _ W0.heap.size 4 (bvs magic) (no : Int) (by omega) (by omega) rfl HR1.out hS2.2.2 (by omega)).mono ?_
  rintro e w3 ⟨v1, rfl, hown1, hb, hs⟩
  have hS3 := keep3 hS2 hb hs (by omega)
  refine hK.out _ _ hS3 (fun _ => ?_)
  clear hK K hb hs
  refine wpAnyH_ready (rs := [7]) (by kernel_rfl) (by simp) ?_
  refine AllReadyH.cons rfl (fun K hK => ?_) AllReadyH.nil
  go_simp
  refine (number_any (w.heap.size + 1) _ _ _ _ (size : Int) (by omega) (by omega) hown1 hS3.2.2 (by omega)).mono ?_
  rintro e w4 ⟨v2, rfl, hown2, hb, hs⟩
  have hS4 := keep3 hS3 hb hs (by omega)
  refine hK.out _ _ hS4 (fun _ => ?_)
  clear hK K hb hs hown1
  refine wpAnyH_ready (rs := [10]) (by kernel_rfl) (by simp) ?_
  refine AllReadyH.cons rfl (fun K hK => ?_) AllReadyH.nil
  go_simp
  refine (number_any (w.heap.size + 1) _ _ _ _ (sm : Int) (by omega) (by omega) hown2 hS4.2.2 (by omega)).mono ?_
  rintro e w1 ⟨v3, rfl, hown3, hb, hs⟩
  have hS := keep3 hS4 hb hs (by omega)
  refine hK.out _ _ hS (fun _ => ?_)
  clear hK K hb hs hown2
  refine wpAnyH_ready (rs := [11]) (by kernel_rfl) (by simp) ?_
  refine AllReadyH.cons rfl (fun K hK => ?_) AllReadyH.nil
  go_simp
  refine hK.out _ _ hS (fun _ => ?_)
  clear hK K
  refine wpAnyH_done (by kernel_rfl) ?_ _
  refine NoPanic.normal ?_
  obtain ⟨_, hbB, hsB⟩ := hS
  have hown4 : w1.ownsRow (w.heap.size + 1) 5 1 v3 22 (bvs (rhead no size sm)) := by
    simpa [rhead, bvs_append] using hown3
  have hbr := BRd.of_own hown4
  have HO := Lib.hid hown4
  have HB := Lib.hid hbr
  clear hown4 hbr hown3 kc hS0 hS1 hS2 hS3 hS4
  have hlt := sum48_lt (rhead no size sm)
  go_wp2_with (first | (go_at_call 66; refine (HB.out.sum (by rw [rhead_length]; omega)).mono ?_; rintro e w2 ⟨rfl, rfl⟩) | (go_at_call 83; refine (number_any (w.heap.size + 1) _ _ _ _ _ (by omega) (by omega) HO.out hsB (by omega)).mono ?_; rintro e w2 ⟨v4, rfl, hown5, hb5, hs5⟩))
  have hown6 : w2.ownsRow w.heap.size 5 1 v4 28 (bvs (rbytes no size sm)) := by
    have h6 := ownsRow_base (base' := w.heap.size) hown5 (by omega)
    rw [Int.toNat_natCast, ← bvs_append] at h6
    exact h6
  go_ret
  refine ⟨v4, rfl, hown6, (hb0.trans (hbB.mono (by omega))).trans (hb5.mono (by omega)), ?_⟩
  rintro rfl
  rcases hown6.2 with ⟨_, h⟩ | ⟨g, cap, cur, h, _⟩
  · omega
  · simp at h
end Go.Proofs.YtgjjcbcmjbnfnaaDoor
