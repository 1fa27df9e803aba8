/- slices.Chunk over bytes: its contract for a range over a function; no statement of the seat is proved here. -/
import Derived.RangeFuncNested
import Derived.RangeFuncBound
import Derived.RangeFuncCalls
import Derived.RangeFuncLeaves
import Derived.RangeFuncWrites
import Derived.Shelf.Abstract
import Derived.OwnWalkIn
import Derived.TacticsInMore
import Derived.LoopNIn
import Derived.LoopIn
import Derived.Sort.QuietIn
import Derived.Test.YtgjjcbcmjbnfnaaDoorBase
import Derived.BigQuiet
import Derived.WalkSmall
import Derived.Outline
namespace Go.Proofs.YtgjjcbcmjbnfnaaDoor
open Go.RowKit
attribute [local go_sem] Oper.semAt_some

/-- A part of n bytes, by its number. -/
abbrev Part (n : Nat) := { k : Nat // 128 * k < n }
def Part.len {n : Nat} (k : Part n) : Nat := min 128 (n - 128 * k.1)
def partV (g n : Nat) (k : Part n) : Value := .slice (some ⟨g, 128 * k.1, none⟩) k.len k.len
/-- The first m parts. -/
def partsUpto (n m : Nat) : List (Part n) := (List.range m).filterMap (fun k => if h : 128 * k < n then some ⟨k, h⟩ else none)
theorem partsUpto_succ {n m : Nat} (h : 128 * m < n) : partsUpto n (m + 1) = partsUpto n m ++ [⟨m, h⟩] := by
  simp [partsUpto, List.range_succ, h]
theorem partsUpto_length {n : Nat} : ∀ m, 128 * m < n + 128 → (partsUpto n m).length = m := by
  intro m
  induction m with
  | zero => intro _; rfl
  | succ m ih => intro h; rw [partsUpto_succ (by omega), List.length_append, ih (by omega)]; rfl

theorem min128 (a : Nat) : (if ((a : Nat) : Int) < 128 then ((a : Nat) : Int) else 128) = ((min 128 a : Nat) : Int) := by
  by_cases h : ((a : Nat) : Int) < 128
  · rw [if_pos h, Nat.min_eq_right (by omega)]
  · rw [if_neg h, Nat.min_eq_left (by omega)]; rfl
theorem wrp (q m : Nat) (h : q + m ≤ 300000) : wrap64 ((q : Int) + (m : Int)) = ((q + m : Nat) : Int) := by unfold wrap64; omega

def nParts (n : Nat) : Nat := (n + 127) / 128
theorem nParts_succ {k n : Nat} (h : 128 * k < n) : k + 1 ≤ nParts n := by unfold nParts; omega
theorem nParts_eq {k n : Nat} (h : k ≤ nParts n) (h2 : ¬ 128 * k < n) : k = nParts n := by unfold nParts at h ⊢; omega
theorem nParts_ge (n : Nat) : ¬ 128 * nParts n < n := by unfold nParts; omega
theorem nParts_lt {k n : Nat} (h : k ≤ nParts n) : 128 * k < n + 128 := by unfold nParts at h; omega
theorem not_lt_cast {a b : Nat} (h : ¬ a < b) : ¬ ((a : Nat) : Int) < (b : Int) := by omega
theorem mes {len q k : Nat} (hq : q = 128 * k) (h : 128 * k < len) : len + 128 - (q + 128) < len + 128 - q := by omega
theorem q3 {len q k : Nat} (hq : q = 128 * k) (h : 128 * k < len) (hlen : len ≤ 100000) : q + 128 ≤ 300000 := by omega

/-- The two boxes of Chunk are as they were. -/
def Kp2 (Bs Bn : Nat) (A B : World) : Prop := B.heap[Bs]? = A.heap[Bs]? ∧ B.heap[Bn]? = A.heap[Bn]?
theorem Kp2.refl {Bs Bn : Nat} {A : World} : Kp2 Bs Bn A A := ⟨rfl, rfl⟩
theorem Kp2.trans {Bs Bn : Nat} {A B C : World} (h : Kp2 Bs Bn A B) (k : Kp2 Bs Bn B C) : Kp2 Bs Bn A C := ⟨k.1.trans h.1, k.2.trans h.2⟩
theorem Kp2.drewN {Bs Bn : Nat} {A B : World} (h : Kp2 Bs Bn A B) (m : Nat) : Kp2 Bs Bn A (B.drewN m) := h
theorem Kp2.cs {Bs Bn : Nat} {A B : World} (h : Kp2 Bs Bn A B) : B.cell? ⟨Bs, 0, none⟩ = A.cell? ⟨Bs, 0, none⟩ := World.cell?_of_block (w := A) h.1
theorem Kp2.cn {Bs Bn : Nat} {A B : World} (h : Kp2 Bs Bn A B) : B.cell? ⟨Bn, 0, none⟩ = A.cell? ⟨Bn, 0, none⟩ := World.cell?_of_block (w := A) h.2

set_option maxRecDepth 100000 in
set_option maxHeartbeats 2000000 in
theorem chunk1_in (n : Nat) (hn : 1 ≤ n) (l Bs Bn g len cap : Nat) (hlen : len ≤ 100000) (hcap : len ≤ cap) (J Jx : List (Part len) → World → Prop)
    (hY : ∀ pre x W, J pre W → pre.length < nParts len → YieldAt Fence.wide (n - 1) Tryd.prog l #[partV g len x] W fun e W' =>
      (e = .returned (.bool true) ∧ J (pre ++ [x]) W' ∧ Kp2 Bs Bn W W') ∨ (e = .returned (.bool false) ∧ Jx (pre ++ [x]) W'))
    (hJd : ∀ s W m, J s W → J s (W.drewN m)) (W : World) (hBs : W.cell? ⟨Bs, 0, none⟩ = some (.slice (some ⟨g, 0, none⟩) len cap)) (hBn : W.cell? ⟨Bn, 0, none⟩ = some (.int .i64 128)) (h0 : J [] W) :
    CallsIn Fence.wide n Tryd.prog 85 #[.func (.yield l) #[] #[], .pointer (some ⟨Bs, 0, none⟩), .pointer (some ⟨Bn, 0, none⟩)] W fun e W' => (∃ v, e = .returned v) ∧
      ((∃ ys, ys = partsUpto len (nParts len) ∧ J ys W') ∨ (∃ pre, Jx pre W')) := by
  refine callsIn_of_wp Tryd.func85 rfl trivial ?_ rfl
  simp only [Tryd.ntmps85, List.size_toArray, List.length_cons, List.length_nil, Nat.reduceAdd, Nat.reduceSub, Array.replicate_succ, Array.replicate_zero, List.push_toArray, List.append_toArray, List.nil_append, List.cons_append]
  gi_wp2
  gi_loopw [4] (fun i wr => ∃ k : Nat, k ≤ nParts len ∧ i = .int .i64 (128 * k : Nat) ∧ J (partsUpto len k) wr ∧ Kp2 Bs Bn W wr)
    (fun i _ => len + 128 - (intOf i).toNat)
  case atStart => exact ⟨0, Nat.zero_le _, rfl, h0, Kp2.refl⟩
  case round =>
    obtain ⟨k, hk, rfl, hJs, hnx⟩ := hrel
    have hbs := hnx.cs.trans hBs
    have hbn := hnx.cn.trans hBn
    by_cases hlt : 128 * k < len
    · obtain ⟨q, hq⟩ : ∃ q, q = 128 * k := ⟨_, rfl⟩
      obtain ⟨m, hm⟩ : ∃ m, m = min 128 (len - q) := ⟨_, rfl⟩
      rw [← hq]
      have hlt' : ((q : Nat) : Int) < (len : Nat) := by omega
      have hqc : ((q : Nat) : Int) ≤ (cap : Nat) := by omega
      have hql : ((q : Nat) : Int) ≤ (len : Nat) := by omega
      have hq0 : (0 : Int) ≤ (q : Nat) := by omega
      have hne : ¬ cap = q := by omega
      have hqm : q + m ≤ 300000 := by omega
      have hq5 : q ≤ 100000 := by omega
      have hm5 : m ≤ 128 := by omega
      have hpv : partV g len ⟨k, hlt⟩ = .slice (some ⟨g, q, none⟩) m m := by rw [partV, Part.len, hm, hq]
      have hm0 : 0 < m := by omega
      have hmc : q + m ≤ cap := by omega
      have hmc' : (((q + m : Nat) : Int)) ≤ (cap : Nat) := by omega
      have hm2 : ((q : Nat) : Int) ≤ ((q + m : Nat) : Int) := by omega
      have hm3 : (0 : Int) ≤ ((q + m : Nat) : Int) := by omega
      have hpos : (partsUpto len k).length < nParts len := by rw [partsUpto_length _ (nParts_lt hk)]; exact nParts_succ hlt
      have hmin : (if ((len - q : Nat) : Int) < 128 then ((len - q : Nat) : Int) else 128) = (m : Nat) := by rw [min128, ← hm]
      have HJ := Lib.hid hJs
      have HQ := Lib.hid hq
      have HM := Lib.hid hm
      have HPV := Lib.hid hpv
      clear hJs hq hm hpv
      gi_wp2
      gi_quiet (fail)
      obtain ⟨fn, tmps, assign, body, hy, hR⟩ := hY _ ⟨k, hlt⟩ (wr.drewN nq) (hJd _ _ _ HJ.out) hpos
      rw [HPV.out] at hy
      clear hmin
      gi_wp2
      refine hR.mono ?_
      rintro e W3 (⟨rfl, hJ3, hk3⟩ | ⟨rfl, hJx3⟩)
      · have hn3 : Kp2 Bs Bn W W3 := (hnx.drewN _).trans hk3
        have hbn3 := hn3.cn.trans hBn
        gi_wp2
        go_roundw
        case rel => exact ⟨k + 1, nParts_succ hlt, by rw [HQ.out]; go_num, by rw [partsUpto_succ hlt]; exact hJ3, hn3⟩
        case measure => simp [intOf]; have := HQ.out; omega
      · gi_wp2
        refine bodyPost_ret (results_none rfl _ _ _) rfl ?_
        exact ⟨⟨_, rfl⟩, .inr ⟨_, hJx3⟩⟩
    · have hk' : k = nParts len := nParts_eq hk hlt
      subst hk'
      have hge : ¬ (((128 * nParts len : Nat) : Int) < (len : Nat)) := not_lt_cast (nParts_ge _)
      gi_wp2
      go_end0
      exact ⟨⟨_, rfl⟩, .inl hJs⟩

theorem chunk_any (a : Option Addr) (n c : Nat) (w : World) : Calls Tryd.prog 68 #[.slice a n c, .int .i64 128] w fun e w' => e = .returned (.func (.func 85) #[] #[.pointer (some ⟨w.heap.size, 0, none⟩), .pointer (some ⟨w.heap.size + 1, 0, none⟩)]) ∧ (w.alloc (.cells #[.slice a n c] 63)).alloc (.cells #[.int .i64 128] 3) = w' := by
  go_enter Tryd.func68, Tryd.ntmps68
  go_wp2
  go_ret
  exact ⟨rfl, rfl⟩

theorem chunk_stops (n : Nat) (hn : 1 ≤ n) (Bs Bn g len cap : Nat) (hlen : len ≤ 100000) (hcap : len ≤ cap) (w : World) (hs : Bs < w.heap.size) (hb : Bn < w.heap.size)
    (hBs : w.cell? ⟨Bs, 0, none⟩ = some (.slice (some ⟨g, 0, none⟩) len cap)) (hBn : w.cell? ⟨Bn, 0, none⟩ = some (.int .i64 128)) :
    SeqStopsK Fence.wide n Tryd.prog 85 #[.pointer (some ⟨Bs, 0, none⟩), .pointer (some ⟨Bn, 0, none⟩)] (fun x : Part len => #[partV g len x]) (Kp2 Bs Bn) (fun ys => ys = partsUpto len (nParts len)) (fun _ => True) (nParts len) w := fun l J Jx W hW hJ _ hY h0 =>
  (chunk1_in n hn l Bs Bn g len cap hlen hcap J Jx hY (fun s W m h => hJ s W _ none h ⟨rfl, rfl, rfl, Nat.le_refl _, fun _ _ _ => rfl⟩ (fun _ h => by cases h)) W ((hW.cell (p := ⟨Bs, 0, none⟩) hs).trans hBs) ((hW.cell (p := ⟨Bn, 0, none⟩) hb).trans hBn) h0).mono
    fun _ _ ⟨h1, h2⟩ => ⟨h1, h2.imp id (fun ⟨pre, h⟩ => ⟨pre, trivial, h⟩)⟩
end Go.Proofs.YtgjjcbcmjbnfnaaDoor
