/- The walks of the functions that write and read numbers, strings and sums; no statement of the seat is proved here. -/
import Derived.Test.YtgjjcbcmjbnfnaaDoorDisk
namespace Go.Proofs.YtgjjcbcmjbnfnaaDoor
open Go.RowKit

/-- The six bytes of a number, the lowest ones first; from the i-th byte on, k of them. -/
def numFrom (n : Nat) : Nat → List UInt8
  | 0 => []
  | k + 1 => UInt8.ofNat n :: numFrom (n / 256) k
def num6 (n : Nat) : List UInt8 := numFrom n 6
theorem numFrom_length (k : Nat) : ∀ n, (numFrom n k).length = k := by
  induction k with
  | zero => intro n; rfl
  | succ k ih => intro n; simp [numFrom, ih]
@[simp] theorem num6_length (n : Nat) : (num6 n).length = 6 := numFrom_length 6 n

theorem numFrom_snoc (k : Nat) : ∀ n, numFrom n (k + 1) = numFrom n k ++ [UInt8.ofNat (n / 256 ^ k)] := by
  induction k with
  | zero => intro n; simp [numFrom]
  | succ k ih =>
    intro n
    rw [numFrom, ih]
    simp only [numFrom, List.cons_append]
    rw [Nat.div_div_eq_div_mul, Nat.pow_succ, Nat.mul_comm (256 ^ k) 256]

set_option maxHeartbeats 400000 in
set_option maxRecDepth 10000 in
theorem number_any (base : Nat) (w : World) (v : Value) (m : Nat) (xs : List Value) (n : Int) (h0 : 0 ≤ n) (hn : n < 9223372036854775808) (hown : w.ownsRow base 5 1 v m xs) (hb : base ≤ w.heap.size) (hm : m ≤ 100000) :
    Calls Tryd.prog 83 #[v, .int .i64 n] w fun e w' => ∃ v', e = .returned v' ∧ w'.ownsRow base 5 1 v' (m + 6) (xs ++ bvs (num6 n.toNat)) ∧ Below base w w' ∧ base ≤ w'.heap.size := by
  obtain ⟨i0, hi, hz0, hz1, hz2⟩ := info_parts Tryd.info5
  obtain ⟨n, rfl⟩ := Int.eq_ofNat_of_zero_le h0
  rw [Int.toNat_natCast]
  have hn' : n < 9223372036854775808 := by omega
  clear h0 hn
  go_enter Tryd.func83, Tryd.ntmps83
  go_wp2
  go_loopw [0, 1, 5] (fun b x i wr => ∃ k : Nat, k ≤ 6 ∧ i = .int .i64 k ∧ x = .int .i64 ((n : Int) / 256 ^ k) ∧ wr.ownsRow base 5 1 b (m + k) (xs ++ bvs (numFrom n k)) ∧ Below base w wr ∧ base ≤ wr.heap.size)
    (fun _ _ i _ => 6 - (intOf i).toNat)
  case atStart => exact ⟨0, by omega, rfl, by simp, by simpa [numFrom] using hown, Below.refl _ _, hb⟩
  case round =>
    obtain ⟨k, hk, rfl, rfl, hr, hbl, hbs⟩ := hrel
    by_cases hlt : k < 6
    · go_wp2_with (at_builtin; refine wpList_append_own _ rfl _ _ 63 rfl base 5 i0 (.int .u8 0) 1 1 Tryd.underlying63 hi hz0 hz1 hz2 rfl (by decide) _ _ _ rfl (hr.alloc _) ⟨wr.heap.size, 0, none⟩ 1 1 [.int .u8 ((n : Int) / 256 ^ k % 256)] rfl rfl (cell_one_new _ _ _) (by simp [Value.oneCell']) (by simp [maxLen]; omega) (by omega) (by simp; omega) ?_)
      intro v' w1 hown1 hgrow1 _
      have hsz := hgrow1.size
      have hb1 : Below base w w1 := (hbl.alloc hbs _).grown hgrow1 (by simp; omega) (fun g hg => (hr.lt g hg).1)
      have hbs1 : base ≤ w1.heap.size := by simp at hsz; omega
      have hnn : (0 : Int) ≤ (n : Int) / 256 ^ k := Int.ediv_nonneg (by omega) (Int.pow_nonneg (by decide))
      have hown2 : Hid (w1.ownsRow base 5 1 v' (m + (k + 1)) (xs ++ bvs (numFrom n (k + 1)))) := by
        show w1.ownsRow base 5 1 v' (m + (k + 1)) (xs ++ bvs (numFrom n (k + 1)))
        rw [numFrom_snoc, bvs_append]
        have e : bvs [UInt8.ofNat (n / 256 ^ k)] = [.int .u8 ((n : Int) / 256 ^ k % 256)] := by
          simp [bvs, bv]
        rw [e]
        exact hown1
      clear hown1 hgrow1 hsz
      go_wp2
      go_roundw
      case rel => exact ⟨k + 1, by omega, by go_num, by rw [Int.pow_succ, ← Int.ediv_ediv_of_nonneg (Int.pow_nonneg (by decide))], hown2, hb1, hbs1⟩
      case measure => simp [intOf]; omega
    · have hk6 : k = 6 := by omega
      subst hk6
      go_wp2
      go_ret
      exact ⟨_, rfl, hr, hbl, hbs⟩

/-! ### sums -/

/-- One step of the sum. -/
def fnvStep (h : Nat) (c : UInt8) : Nat := (h ^^^ c.toNat) * 1099511628211 % 18446744073709551616
def fnvFrom (h : Nat) (l : List UInt8) : Nat := l.foldl fnvStep h
def fnv (l : List UInt8) : Nat := fnvFrom 14695981039346656037 l
def sum48 (l : List UInt8) : Nat := fnv l / 65536

theorem fnvFrom_snoc (h : Nat) (l : List UInt8) (c : UInt8) : fnvFrom h (l ++ [c]) = fnvStep (fnvFrom h l) c := by unfold fnvFrom; rw [List.foldl_append, List.foldl_cons, List.foldl_nil]
theorem fnv_snoc (l : List UInt8) (c : UInt8) : fnv (l ++ [c]) = fnvStep (fnv l) c := fnvFrom_snoc _ l c
theorem fnvStep_lt (h : Nat) (c : UInt8) : fnvStep h c < 18446744073709551616 := by unfold fnvStep; omega
theorem fnv_lt (l : List UInt8) : fnv l < 18446744073709551616 := by
  rcases List.eq_nil_or_concat l with rfl | ⟨l', c, rfl⟩
  · unfold fnv fnvFrom; rw [List.foldl_nil]; omega
  · rw [List.concat_eq_append, fnv_snoc]; exact fnvStep_lt _ _
theorem fnv_round (l : List UInt8) (k : Nat) (h : k < l.length) :
    IntKind.u64.wrap (bits .xor .u64 ((fnv (l.take k) : Nat) : Int) (IntKind.u64.wrap ((l[k]).toNat : Int)) * 1099511628211) = ((fnv (l.take (k + 1)) : Nat) : Int) := by
  have h1 := fnv_lt (l.take k)
  have h2 : l[k].toNat < 256 := l[k].toNat_lt
  have e1 : IntKind.u64.wrap ((l[k]).toNat : Int) = ((l[k].toNat : Nat) : Int) := by rw [IntKind.wrap_u64]; omega
  rw [e1, u64_xor_nat _ _ h1 (by omega), IntKind.wrap_u64, List.take_succ_eq_append_getElem h, fnv_snoc, fnvStep]
  simp
theorem sum48_lt (l : List UInt8) : sum48 l < 281474976710656 := by
  have := fnv_lt l
  unfold sum48; omega

set_option maxHeartbeats 400000 in
set_option maxRecDepth 10000 in
theorem sum_any (w : World) (a : Option Addr) (n c : Nat) (l : List UInt8) (hln : l.length = n) (hn : n ≤ 1000000)
    (hl : ∀ j, j < n → ∃ g o, a = some ⟨g, o, none⟩ ∧ w.cell? ⟨g, o + j, none⟩ = some (.int .u8 (l[j]?.getD 0).toNat)) :
    Calls Tryd.prog 66 #[.slice a n c] w fun e w' => e = .returned (.int .i64 (sum48 l)) ∧ w = w' := by
  go_enter Tryd.func66, Tryd.ntmps66
  go_wp2
  go_loop [3, 8] (fun h i => ∃ k : Nat, k ≤ n ∧ i = .int .i64 k ∧ h = .int .u64 (fnv (l.take k)))
    (fun _ i => n - (intOf i).toNat)
  case atStart => exact ⟨0, by omega, rfl, rfl⟩
  case round =>
    obtain ⟨k, hk, rfl, rfl⟩ := hrel
    by_cases hlt : k < n
    · obtain ⟨g, o, rfl, hc⟩ := hl k hlt
      clear hl
      have HR := Lib.hid (fnv_round l k (by omega))
      go_wp2
      go_round
      case rel => exact ⟨k + 1, by omega, by go_num, by rw [← HR.out]⟩
      case measure => simp [intOf]; omega
    · clear hl
      have hk' : k = n := by omega
      subst hk'
      have hf : l.take k = l := List.take_of_length_le (by omega)
      have HW : Hid (wrap64 ((fnv (l.take k) : Nat) / 65536) = ((sum48 l : Nat) : Int)) := by
        show wrap64 ((fnv (l.take k) : Nat) / 65536) = ((sum48 l : Nat) : Int)
        have h1 := fnv_lt l
        rw [hf]
        unfold sum48 wrap64
        omega
      clear hf
      go_wp2
      go_ret
      exact ⟨by rw [← HW.out]; rfl, rfl⟩
end Go.Proofs.YtgjjcbcmjbnfnaaDoor
