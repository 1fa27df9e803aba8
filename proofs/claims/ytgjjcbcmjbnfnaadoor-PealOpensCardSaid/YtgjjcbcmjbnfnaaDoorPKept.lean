/- The walk of PealKept; no statement of the seat is proved here. -/
import Derived.Test.YtgjjcbcmjbnfnaaDoorBegun
import Derived.Deep.DeepCutAuto
import Derived.Maps.AppendAt
namespace Go.Proofs.YtgjjcbcmjbnfnaaDoor
open Go.RowKit

def cutB (s : ByteArray) (n : Nat) : ByteArray := s.extract 0 (min s.size n)
theorem cutB_size (s : ByteArray) (n : Nat) : (cutB s n).size ≤ n := by simp [cutB]; omega

theorem cut_any (s : ByteArray) (n : Nat) (w : World) (hs : s.size ≤ maxLen) (hn : n ≤ 1000000) :
    Calls Tryd.prog 11 #[.string s, .int .i64 n] w fun e w' => e = .returned (.string (cutB s n)) ∧ w = w' := by
  unfold maxLen at hs
  have e : (min ((s.size : Nat) : Int) (n : Int)).toNat = min s.size n := by omega
  have E := Lib.hid e
  clear e
  go_enter Tryd.func11, Tryd.ntmps11
  go_wp2
  go_ret
  refine ⟨?_, rfl⟩
  show Ending.returned (.string (s.extract 0 (min ((s.size : Nat) : Int) (n : Int)).toNat)) = _
  rw [E.out]
  rfl

/-- The text of the i-th entry. -/
def txtAt (T : List ByteArray) (i : Nat) : ByteArray := if T.length = 0 then ByteArray.empty else cutB (T.getD (i % T.length) ByteArray.empty) 24
theorem txtAt_size (T : List ByteArray) (i : Nat) : (txtAt T i).size ≤ 24 := by
  unfold txtAt
  split
  · simp
  · exact cutB_size _ _
def txtsUpto (T : List ByteArray) (k : Nat) : List ByteArray := (List.range k).map (txtAt T)
theorem txtsUpto_succ (T : List ByteArray) (k : Nat) : txtsUpto T (k + 1) = txtsUpto T k ++ [txtAt T k] := by simp [txtsUpto, List.range_succ]
theorem txtsUpto_length (T : List ByteArray) (k : Nat) : (txtsUpto T k).length = k := by simp [txtsUpto]
/-- What a list keeps. -/
def lastK (l : List ByteArray) : List ByteArray := l.drop (l.length - 40)
theorem lastK_snoc (l : List ByteArray) (t : ByteArray) : addK (lastK l) t = lastK (l ++ [t]) := by
  unfold addK lastK
  by_cases h : l.length < 40
  · rw [Nat.sub_eq_zero_of_le (by omega), List.drop_zero, if_neg (by simp; omega), Nat.sub_eq_zero_of_le (by simp; omega), List.drop_zero]
  · rw [if_pos (by simp; omega), List.length_append, List.length_singleton, List.drop_append_of_le_length (by simp; omega), List.drop_append_of_le_length (by omega)]
    congr 1
    rw [List.drop_drop]
    congr 1
    omega
theorem lastK_length (l : List ByteArray) : (lastK l).length = min l.length 40 := by unfold lastK; simp; omega

structure KI (B : Nat) (W0 : World) (q b p r : Nat) (s : Dk) (T : List ByteArray) (k : Nat) (v : Value) (wr : World) : Prop where
  wd : wr.heap[q]? = some (.cells [.pointer (some ⟨b, 0, none⟩), .pointer (some ⟨p, 0, none⟩), .pointer (some ⟨r, 0, none⟩), .bool false].toArray 33)
  l : ∃ L, G wr b p s L (lastK (txtsUpto T k)) (k + 1) x0 ∧ L.last = k ∧ L.mark = 0 ∧ (∀ g, L.texts.ownBlock = some g → B ≤ g ∧ v.ownBlock ≠ some g)
  all : wr.ownsRow B 9 1 v k (strs (txtsUpto T k))
  b : Below B W0 wr

theorem own_block {w : World} {base size n : Nat} {e : TypeId} {v : Value} {xs : List Value} (h : w.ownsRow base e size v n xs) {g : Nat} (hg : v.ownBlock = some g) : base ≤ g ∧ g < w.heap.size ∧ ∃ cur, w.heap[g]? = some (.cells cur e) := by
  rcases h.2 with ⟨h0, _⟩ | ⟨g', cap, cur, hv, hb, hgg, _⟩
  · subst h0; cases hg
  · subst hv
    simp [Value.ownBlock] at hg
    subst hg
    exact ⟨hb, heap_lt hgg, cur, hgg⟩

theorem ne_kind {w : World} {g k : Nat} {cur : Array Value} {l : List Value} {t t' : TypeId} (h1 : w.heap[g]? = some (.cells cur t)) (h2 : w.heap[k]? = some (.cells l.toArray t')) (h : t ≠ t') : g ≠ k := by
  intro e
  subst e
  rw [h1] at h2
  have h3 := congrArg (fun o => match o with | some (Obj.cells _ t _) => t | _ => 0) h2
  exact h h3

/-- Behind the append to all of the texts. -/
theorem KI.all' {B : Nat} {W0 : World} {q b p r : Nat} {s : Dk} {T : List ByteArray} {k : Nat} {v : Value} {wr : World} {L : Ls} (h : KI B W0 q b p r s T k v wr) (hB : B ≤ W0.heap.size)
    (hG : G wr b p s L (lastK (txtsUpto T k)) (k + 1) x0) (hrw : ∀ g, L.texts.ownBlock = some g → B ≤ g ∧ v.ownBlock ≠ some g) {o : Obj} {w5 : World} {v5 : Value}
    (hown : w5.ownsRow B 9 1 v5 (k + 1) (strs (txtsUpto T k) ++ [Value.string (txtAt T k)])) (hgrow : (wr.alloc o).grownBy w5 v.ownBlock) (hat : v5.ownBlock = v.ownBlock ∨ v5.ownBlock = some (wr.heap.size + 1)) :
    w5.heap[q]? = some (.cells [.pointer (some ⟨b, 0, none⟩), .pointer (some ⟨p, 0, none⟩), .pointer (some ⟨r, 0, none⟩), .bool false].toArray 33) ∧
    G w5 b p s L (lastK (txtsUpto T k)) (k + 1) x0 ∧ (∀ g, L.texts.ownBlock = some g → v5.ownBlock ≠ some g) ∧ w5.ownsRow B 9 1 v5 (k + 1) (strs (txtsUpto T (k + 1))) ∧ Below B W0 w5 ∧ wr.heap.size ≤ w5.heap.size := by
  have hs := h.b.size
  have hU : Upd wr.heap.size v.ownBlock.toList wr w5 := ((Upd.refl wr.heap.size v.ownBlock.toList wr).alloc (Nat.le_refl _) o).grown hgrow (by simp) (fun k hk => .inr (by simp [hk]))
  have hvb : ∀ g, g ∈ v.ownBlock.toList → B ≤ g ∧ ∃ cur, wr.heap[g]? = some (.cells cur 9) := fun g hg => by
    have := own_block h.all (g := g) (by simpa using hg)
    exact ⟨this.1, this.2.2⟩
  have hne : ∀ {k l t}, wr.heap[k]? = some (.cells (List.toArray l) t) → t ≠ 9 → k ∉ v.ownBlock.toList := fun hk ht hm => by
    obtain ⟨_, cur, hc⟩ := hvb _ hm
    exact ne_kind hc hk (fun e => ht e.symm) rfl
  refine ⟨(hU.block q (heap_lt h.wd) (hne h.wd (by decide))).trans h.wd, hG.keep hU (Nat.le_refl _) (hne hG.gd.disk.heap (by decide)) ?_ (hne hG.list.heap (by decide)) ?_, ?_, ?_, ?_, hU.size⟩
  · intro hm
    obtain ⟨_, cur, hc⟩ := hvb _ hm
    obtain ⟨es, clk, h1, _⟩ := hG.gd.disk.map.ex
    rw [hc] at h1
    cases h1
  · intro g hg e
    exact (hrw g e).2 (by simpa using hg)
  · intro g hg e
    rcases hat with h1 | h1
    · exact (hrw g hg).2 (h1.symm.trans e)
    · have h2 := (hG.list.own.lt g hg).2
      rw [h1] at e
      simp at e
      omega
  · rw [txtsUpto_succ]
    simpa [strs] using hown
  · exact h.b.trans (hU.mono (B' := B) (S' := []) (by omega) (fun x hx => .inr (hvb x hx).1)).below

/-- Behind Add. -/
theorem KI.step {B : Nat} {W0 : World} {q b p r : Nat} {s : Dk} {T : List ByteArray} {k : Nat} {w5 w6 : World} {v5 v6 : Value} {L : Ls} (hbp : B ≤ p) (hB5 : B ≤ w5.heap.size)
    (hq : w5.heap[q]? = some (.cells [.pointer (some ⟨b, 0, none⟩), .pointer (some ⟨p, 0, none⟩), .pointer (some ⟨r, 0, none⟩), .bool false].toArray 33))
    (hG : G w5 b p s L (lastK (txtsUpto T k)) (k + 1) x0) (hrw : ∀ g, L.texts.ownBlock = some g → B ≤ g ∧ v5.ownBlock ≠ some g) (hall : w5.ownsRow B 9 1 v5 (k + 1) (strs (txtsUpto T (k + 1)))) (hb : Below B W0 w5)
    (hl : L.last = k) (hm : L.mark = 0) (hG6 : G w6 b p s { L with dirty := true, last := L.last + 1, texts := v6 } (addK (lastK (txtsUpto T k)) (txtAt T k)) (k + 1 + 1) x0)
    (hv6 : ∀ g, v6.ownBlock = some g → L.texts.ownBlock = some g ∨ w5.heap.size ≤ g) (hU : Upd w5.heap.size (p :: L.texts.ownBlock.toList) w5 w6) : KI B W0 q b p r s T (k + 1) v5 w6 := by
  have hqp : q ∉ p :: L.texts.ownBlock.toList := by
    intro hx
    rcases List.mem_cons.1 hx with rfl | hx
    · exact ne_kind hq hG.list.heap (by decide) rfl
    · obtain ⟨_, cur, hc⟩ := hG.list.row_ne (g := q) (by simpa using hx)
      exact ne_kind hc hq (by decide) rfl
  refine ⟨(hU.block q (heap_lt hq) hqp).trans hq, ⟨{ L with dirty := true, last := L.last + 1, texts := v6 }, by rw [lastK_snoc, ← txtsUpto_succ] at hG6; exact hG6, by show L.last + 1 = _; omega, hm, ?_⟩, ?_, ?_⟩
  · intro g hg
    rcases hv6 g hg with h1 | h1
    · exact hrw g h1
    · refine ⟨by omega, fun e => ?_⟩
      have := (own_block hall e).2.1
      omega
  · refine own_keep hall (fun g cur hg he => hU.block g (heap_lt hg) (fun hx => ?_))
    rcases List.mem_cons.1 hx with rfl | hx
    · exact ne_kind hg hG.list.heap (by decide) rfl
    · exact (hrw g (by simpa using hx)).2 he
  · refine hb.trans (hU.mono (B' := B) (S' := []) hB5 (fun x hx => .inr ?_)).below
    rcases List.mem_cons.1 hx with rfl | hx
    · exact hbp
    · exact (hrw x (by simpa using hx)).1

theorem ents_get (ts : List ByteArray) : ∀ (a : Int) (i : Nat) (t : ByteArray), ts[i]? = some t → (ents a ts)[i * 2]? = some (.int .i64 (a + i)) ∧ (ents a ts)[i * 2 + 1]? = some (.string t) := by
  induction ts with
  | nil => intro a i t h; simp at h
  | cons u ts ih =>
    intro a i t h
    cases i with
    | zero => simp at h; subst h; simp [ents]
    | succ i =>
      have := ih (a + 1) i t (by simpa using h)
      rw [show (i + 1) * 2 = i * 2 + 1 + 1 by omega]
      simp only [ents, List.getElem?_cons_succ]
      rw [this.1, this.2]
      refine ⟨?_, rfl⟩
      congr 2
      push_cast
      omega

/-- The entries from the i-th on, as Kept returned them. -/
def EntI (a3 : Option Addr) (a : Int) (ts : List ByteArray) (wx : World) (i : Nat) (W : World) : Prop :=
  (∀ j t, i ≤ j → ts[j]? = some t → ∃ g, a3 = some ⟨g, 0, none⟩ ∧ wx.heap.size ≤ g ∧ W.cell? ⟨g, j * 2, none⟩ = some (.int .i64 (a + j)) ∧ W.cell? ⟨g, j * 2 + 1, none⟩ = some (.string t) ∧ W.frozen? ⟨g, j * 2, none⟩ = false) ∧ Below wx.heap.size wx W

theorem EntI.start {a3 : Option Addr} {c3 : Nat} {a : Int} {ts : List ByteArray} {wx w3 : World} (h : w3.ownsRow wx.heap.size 40 2 (.slice a3 ts.length c3) ts.length (ents a ts)) (hb : Below wx.heap.size wx w3) : EntI a3 a ts wx 0 w3 := by
  refine ⟨fun j t _ hj => ?_, hb⟩
  have hlt : j < ts.length := (List.getElem?_eq_some_iff.1 hj).1
  rcases h.2 with ⟨h0, h1⟩ | ⟨g, cap, cur, hv, hbg, hgg, _⟩
  · omega
  · cases hv
    have he := ents_get ts a j t hj
    have c1 := h.cells (g := g) rfl _ _ he.1
    have c2 := h.cells (g := g) rfl _ _ he.2
    rw [add_addr, Nat.zero_add] at c1 c2
    exact ⟨g, rfl, hbg, c1, c2, frozen_of_row _ _ _ _ _ hgg⟩

theorem EntI.step {a3 : Option Addr} {a : Int} {ts : List ByteArray} {wx W : World} {i g : Nat} (h : EntI a3 a ts wx i W) (hg : a3 = some ⟨g, 0, none⟩) (hw : wx.heap.size ≤ g) (u : Value) : EntI a3 a ts wx (i + 1) (W.setCell ⟨g, i * 2, none⟩ u) := by
  refine ⟨fun j t hij hj => ?_, h.2.setCell hw u⟩
  obtain ⟨g', e, h1, h2, h3, h4⟩ := h.1 j t (by omega) hj
  rw [hg] at e
  cases e
  refine ⟨g, hg, h1, ?_, ?_, ?_⟩
  · exact (World.cell?_setCell_other W ⟨g, i * 2, none⟩ ⟨g, j * 2, none⟩ u (fun e => by have h5 := congrArg Addr.off e; simp only at h5; omega)).trans h2
  · exact (World.cell?_setCell_other W ⟨g, i * 2, none⟩ ⟨g, j * 2 + 1, none⟩ u (fun e => by have h5 := congrArg Addr.off e; simp only at h5; omega)).trans h3
  · rw [World.frozen?_setCell]; exact h4

theorem EntI.drewN {a3 : Option Addr} {a : Int} {ts : List ByteArray} {wx W : World} {i : Nat} (h : EntI a3 a ts wx i W) (n : Nat) : EntI a3 a ts wx i (W.drewN n) := ⟨h.1, below_drewN h.2 n⟩

theorem lastK_get (l : List ByteArray) (i : Nat) : (lastK l)[i]? = l[l.length - 40 + i]? := by unfold lastK; rw [List.getElem?_drop]

set_option maxHeartbeats 4000000 in
set_option maxRecDepth 100000 in
theorem pealKept_any (many : Nat) (hm : many < 256) (a : Option Addr) (cap : Nat) (T : List ByteArray) (w : World) (hG : GlobErr w)
    (hT : ∀ j s, T[j]? = some s → ∃ g o, a = some ⟨g, o, none⟩ ∧ w.cell? ⟨g, o + j, none⟩ = some (.string s)) (hTn : T.length ≤ 9223372036854775807) (hs : ∀ t ∈ T, t.size ≤ maxLen) :
    Calls Tryd.prog 3 #[.int .u8 many, .slice a T.length cap] w fun e w' => e = .returned (.bool true) ∧ Below w.heap.size w w' := by
  obtain ⟨i0, hi, hz0, hz1, hz2⟩ := info_parts Tryd.info9
  obtain ⟨n, hn⟩ : ∃ n, n = many % 100 := ⟨_, rfl⟩
  have hw0 := hG.pos
  have hn1 : ((many : Nat) : Int) % 100 = (n : Int) := by omega
  have hn2 : n < 100 := by omega
  have hm2 : ((many : Nat) : Int) < 256 := by omega
  have HB := Lib.hid (begun_any w hG)
  have HLv := Lib.hid (fun w1 (h : Below w.heap.size w w1) => lives_any w1 (hG.upd (Upd.of_below h []) hw0 (by simp)))
  have HT := Lib.hid hT
  have HS := Lib.hid hs
  have HN := Lib.hid hn1
  clear hn hG hT hs hm hn1
  go_enter Tryd.func3, Tryd.ntmps3
  go_wp2_with fail
  refine HB.out.mono ?_
  rintro e w1 ⟨q, b, p, r, gs, s, L, rfl, hb, hbp, hbm, hpg, hgr, hrq, hrow, hq, _, _, hG1, hst, hB1⟩
  have HQ := Lib.hid hq
  have HG1 := Lib.hid hG1
  have HLw := Lib.hid (HLv.out w1 hB1)
  have HB1 := Lib.hid hB1
  clear hq hG1 HB HLv hB1
  go_wp2_with fail
  refine HLw.out.mono ?_
  rintro e w2 ⟨rfl, hb2⟩
  have hQ2 := (hb2.block q (heap_lt HQ.out)).trans HQ.out
  have hG2 := HG1.out.keep (Upd.of_below hb2 []) (Nat.le_refl _) (by simp) (by simp) (by simp) (by simp)
  have hB2 := HB1.out.trans (hb2.mono (HB1.out.size))
  have hL2 : L.last = 0 ∧ L.mark = 0 := by
    have e1 := congrArg St.last hst
    have e2 := congrArg St.mark hst
    exact ⟨e1, e2⟩
  have HQ2 := Lib.hid hQ2
  have HG2 := Lib.hid hG2
  have HB2 := Lib.hid hB2
  have HL2 := Lib.hid hL2
  clear hQ2 hG2 hB2 hL2 hst HQ HG1 HB1 HLw hb2
  go_wp2_with fail
  rw [HN.out]
  have hw2s := HB2.out.size
  have HK0 : KI w.heap.size w q b p r s T 0 (.slice (some ⟨w2.heap.size, 0, none⟩) 0 0) (w2.alloc (.cells #[] 9)) :=
    ⟨(Below.heap_alloc _ _ _ (heap_lt HQ2.out)).trans HQ2.out, ⟨L, HG2.out.keep ((Upd.refl w2.heap.size [] w2).alloc (Nat.le_refl _) _) (Nat.le_refl _) (by simp) (by simp) (by simp) (by simp), HL2.out.1, HL2.out.2, fun g hg => ⟨hrow g hg, fun e => by
        have h1 := (HG2.out.list.own.lt g hg).2
        simp [Value.ownBlock] at e
        omega⟩⟩, World.ownsRow_made (e := 9) (size := 1) (base := w.heap.size) w2 #[] 0 hw2s (by simp [maxLen]) rfl, HB2.out.alloc hw2s _⟩
  have HQP : Hid (q ≠ p ∧ q ≠ b) := ⟨by omega, by omega⟩
  clear HQ2 HG2 HB2 HL2 hw2s
  go_loopw [7, 8, 9, 10, 11] (fun v i _ _ _ wr => ∃ k : Nat, k ≤ n ∧ i = .int .i64 k ∧ Hid (KI w.heap.size w q b p r s T k v wr)) (fun _ i _ _ _ _ => n - (intOf i).toNat)
  case atStart => exact ⟨0, Nat.zero_le _, rfl, HK0⟩
  case round =>
    obtain ⟨k, hk, rfl, HK⟩ := hrel
    by_cases hlt : k < n
    · go_upto_if 35 with fail
      go_cut [9] from 35 to 43 (fun s9 wc => s9 = .string (txtAt T k) ∧ wr = wc)
      case first =>
        by_cases hz : T.length = 0
        · have ht : txtAt T k = ByteArray.empty := by rw [txtAt, if_pos hz]
          have HTx := Lib.hid ht
          have hz1 : ¬ 0 < T.length := by omega
          clear ht
          go_wp2_with fail
          go_meet
          exact ⟨by rw [HTx.out]; rfl, rfl⟩
        · have hz1 : 0 < T.length := by omega
          have hm : k % T.length < T.length := Nat.mod_lt _ hz1
          have ht : txtAt T k = cutB (T[k % T.length]) 24 := by rw [txtAt, if_neg hz, List.getD_eq_getElem?_getD, List.getElem?_eq_getElem hm]; rfl
          obtain ⟨g, o, ha, hc⟩ := HT.out (k % T.length) T[k % T.length] (List.getElem?_eq_getElem hm)
          subst ha
          have hc2 : wr.cell? ⟨g, o + k % T.length, none⟩ = some (.string T[k % T.length]) := by
            rw [HK.out.b.cell (p := ⟨g, o + k % T.length, none⟩) (World.block_lt_of_cell? w _ hc)]; exact hc
          have hss := HS.out T[k % T.length] (List.getElem_mem hm)
          have HTx := Lib.hid ht
          have HCu := Lib.hid (cut_any T[k % T.length] 24 wr hss (by omega))
          clear ht hc hz
          go_wp2_with fail
          refine HCu.out.mono ?_
          rintro e w3 ⟨rfl, rfl⟩
          go_wp2_with fail
          go_meet
          exact ⟨by rw [HTx.out], rfl⟩
      case rest =>
        obtain ⟨rfl, rfl⟩ := hcut
        obtain ⟨L, hGk, hlast, hmark, hrw⟩ := HK.out.l
        have hqc : wr.cell? ⟨q, 1, none⟩ = some (.pointer (some ⟨p, 0, none⟩)) := by rw [cell_of_heap HK.out.wd]; rfl
        obtain ⟨av, cv, rfl⟩ := own_form HK.out.all
        have hall := HK.out.all
        have HGk := Lib.hid hGk
        have HLa := Lib.hid hlast
        have HMa := Lib.hid hmark
        have HRw := Lib.hid hrw
        clear hGk hlast hmark hrw
        go_wp2_with (at_builtin; refine wpList_append_own_at _ rfl _ _ 22 rfl w.heap.size 9 i0 (.string ByteArray.empty) 1 16 Tryd.underlying22 hi hz0 hz1 hz2 rfl (by decide) _ _ _ rfl (hall.alloc _) ⟨wr.heap.size, 0, none⟩ 1 1 [.string (txtAt T k)] rfl rfl ?c1 ?c2 ?c3 ?c4 ?c5 ?_)
        case c1 => exact cell_one_new _ _ _
        case c2 => simp [Value.oneCell']
        case c3 => simp [maxLen]; omega
        case c4 => omega
        case c5 => have := HK.out.b.size; simp; omega
        intro v5 w5 hown5 hgrow5 _ hat5
        obtain ⟨hq5, hG5, hr5, hall5, hb5, hs5⟩ := HK.out.all' (Nat.le_refl _) HGk.out HRw.out hown5 hgrow5 (by simpa using hat5)
        have hqc5 : w5.cell? ⟨q, 1, none⟩ = some (.pointer (some ⟨p, 0, none⟩)) := by rw [cell_of_heap hq5]; rfl
        have hadd := hG5.add (txtAt T k) (txtAt_size T k) (by omega)
        rw [HLa.out] at hadd
        have HAd := Lib.hid hadd
        have HST : Hid (∀ w6 v6, _ → _ → _ → KI w.heap.size w q b p r s T (k + 1) v5 w6) := Lib.hid (fun w6 v6 h1 h2 h3 => KI.step (w6 := w6) (v6 := v6) (by omega) hb5.size hq5 hG5 (fun g hg => ⟨(HRw.out g hg).1, hr5 g hg⟩) hall5 hb5 HLa.out HMa.out h1 h2 h3)
        clear hown5 hgrow5 hat5 hq5 hG5 hr5 hall5 hb5 hs5 hadd hall hqc HK
        go_wp2_with fail
        refine HAd.out.mono ?_
        rintro e w6 ⟨rfl, v6, hG6, hv6, hU6⟩
        have HK6 := Lib.hid (HST.out w6 v6 (by rw [HLa.out]; exact hG6) hv6 hU6)
        clear HST hG6 hv6 hU6 HAd
        go_wp2_with fail
        go_roundw
        case rel => exact ⟨k + 1, by omega, by go_num, HK6⟩
        case measure => simp [intOf]; omega
    · have hkn : k = n := by omega
      subst hkn
      obtain ⟨wo, rfl⟩ : ∃ x, x = wr := ⟨_, rfl⟩
      obtain ⟨L2, hGk, hlast, hmark, hrw⟩ := HK.out.l
      have hqc : wo.cell? ⟨q, 1, none⟩ = some (.pointer (some ⟨p, 0, none⟩)) := by rw [cell_of_heap HK.out.wd]; rfl
      obtain ⟨av, cv, rfl⟩ := own_form HK.out.all
      have HGk := Lib.hid hGk
      have HLa := Lib.hid hlast
      have HMa := Lib.hid hmark
      clear hGk hlast hmark hrw
      go_wp2_with fail
      have hwb := HK.out.b.size
      go_loopw [12, 13, 14, 15, 16] (fun i _ _ _ _ wx => ∃ j : Nat, j ≤ 2 ∧ i = .int .i64 j ∧ Hid (Below wo.heap.size wo wx)) (fun i _ _ _ _ _ => 2 - (intOf i).toNat)
      case atStart => exact ⟨0, by omega, rfl, Lib.hid (Below.refl _ _)⟩
      case round =>
        obtain ⟨j, hj, rfl, HBx⟩ := hrel
        obtain ⟨wx, rfl⟩ : ∃ x, x = wr := ⟨_, rfl⟩
        by_cases hj2 : j < 2
        · have hqx : wx.cell? ⟨q, 1, none⟩ = some (.pointer (some ⟨p, 0, none⟩)) := by rw [HBx.out.cell (p := ⟨q, 1, none⟩) (heap_lt HK.out.wd)]; exact hqc
          have hGx := HGk.out.keep (Upd.of_below HBx.out []) (Nat.le_refl _) (by simp) (by simp) (by simp) (by simp)
          obtain ⟨m, hm⟩ : ∃ m, m = (lastK (txtsUpto T k)).length := ⟨_, rfl⟩
          have hm2 : m = min k 40 := by rw [hm, lastK_length, txtsUpto_length]
          have hkp := kept_any p b wx L2 _ hGx.list hGx.ok.len (by rw [HLa.out]; omega)
          rw [← hm, HLa.out] at hkp
          have hneq : (((m : Nat) : Int) != min (k : Int) 40) = false := by rw [bne_eq_false_iff_eq]; omega
          have HKp := Lib.hid hkp
          have HGx := Lib.hid hGx
          have HM := Lib.hid hm
          have HM2 := Lib.hid hm2
          clear hkp hGx hm hm2
          go_wp2_with fail
          refine HKp.out.mono ?_
          rintro e w3 ⟨v3, rfl, hown3, hb3⟩
          obtain ⟨a3, c3, rfl⟩ := own_form hown3
          have hGy := HGx.out.keep (Upd.of_below hb3 []) (Nat.le_refl _) (by simp) (by simp) (by simp) (by simp)
          have hla := last_any p b w3 L2 _ hGy.list
          have hma := marked_any p b w3 L2 _ hGy.list
          rw [HLa.out] at hla
          rw [HMa.out] at hma
          have HLA := Lib.hid hla
          have HMA := Lib.hid hma
          have hqy : w3.cell? ⟨q, 1, none⟩ = some (.pointer (some ⟨p, 0, none⟩)) := by rw [hb3.cell (p := ⟨q, 1, none⟩) (World.block_lt_of_cell? wx _ hqx)]; exact hqx
          have HB3 := Lib.hid hb3
          have HO3 := Lib.hid hown3
          clear hla hma hGy hown3 hb3 HKp HGx
          go_wp2_with (first | (go_at_call 14; refine HLA.out.mono ?_; rintro e w' ⟨rfl, rfl⟩) | (go_at_call 15; refine HMA.out.mono ?_; rintro e w' ⟨rfl, rfl⟩))
          have hE0 : Hid (EntI a3 ((k : Int) - m + 1) (lastK (txtsUpto T k)) wx 0 w3) := by
            have h1 := HO3.out
            rw [HM.out] at h1
            have h2 := EntI.start h1 HB3.out
            rw [← HM.out] at h2
            exact h2
          have hwx : wo.heap.size ≤ wx.heap.size := HBx.out.size
          go_loopw [15, 16] (fun i _ wy => ∃ x : Nat, x ≤ m ∧ i = .int .i64 x ∧ Hid (EntI a3 ((k : Int) - m + 1) (lastK (txtsUpto T k)) wx x wy)) (fun i _ _ => m - (intOf i).toNat)
          case atStart => exact ⟨0, Nat.zero_le _, rfl, hE0⟩
          case round =>
            obtain ⟨x, hx, rfl, HE⟩ := hrel
            obtain ⟨wy, rfl⟩ : ∃ x, x = wr := ⟨_, rfl⟩
            by_cases hx2 : x < m
            · have hm2 := HM2.out
              have hxl : (lastK (txtsUpto T k))[x]? = some ((lastK (txtsUpto T k))[x]'(by rw [← HM.out]; exact hx2)) := List.getElem?_eq_getElem _
              obtain ⟨t, ht⟩ : ∃ t, t = (lastK (txtsUpto T k))[x]'(by rw [← HM.out]; exact hx2) := ⟨_, rfl⟩
              rw [← ht] at hxl
              obtain ⟨g, ha3, hgw, d1, d2, d3⟩ := HE.out.1 x t (Nat.le_refl _) hxl
              obtain ⟨y, hy⟩ : ∃ y, y = k - m + x := ⟨_, rfl⟩
              have hall : ∃ ga, av = some ⟨ga, 0, none⟩ ∧ wy.cell? ⟨ga, y, none⟩ = some (.string t) := by
                have hown := HK.out.all
                rw [lastK_get, txtsUpto_length] at hxl
                rcases hown.2 with ⟨h0, h1⟩ | ⟨ga, cap, cur, hv, _⟩
                · omega
                · cases hv
                  have hc := hown.cells (g := ga) rfl y (.string t) (by rw [strs, List.getElem?_map, show y = k - 40 + x by omega, hxl]; rfl)
                  rw [add_addr, Nat.zero_add] at hc
                  have hl1 := World.block_lt_of_cell? _ _ hc
                  refine ⟨ga, rfl, ?_⟩
                  rw [HE.out.2.cell (p := ⟨ga, y, none⟩) (by show ga < _; have : ga < wo.heap.size := hl1; omega), HBx.out.cell (p := ⟨ga, y, none⟩) hl1]
                  exact hc
              obtain ⟨ga, hav, d4⟩ := hall
              subst hav
              subst ha3
              have hy1 : y < k := by omega
              have hmk : m ≤ k := by omega
              have hw1 : IntKind.i64.wrap ((k : Int) - m + 1 + x - 1) = (y : Int) := by rw [IntKind.wrap_i64]; omega
              have HY := Lib.hid hy
              clear hm2 hxl ht hy
              go_wp2_with fail
              go_quiet (fail)
              clear hw1
              go_wp2
              go_roundw
              case rel => exact ⟨x + 1, by omega, by go_num, (HE.out.drewN nq).step rfl hgw _⟩
              case measure => simp [intOf]; omega
            · have hx3 : x = m := by omega
              subst hx3
              go_wp2
              go_roundw
              case rel => exact ⟨j + 1, by omega, by go_num, HBx.out.trans (HE.out.2.mono hwx)⟩
              case measure => simp [intOf]; omega
        · have hj3 : j = 2 := by omega
          subst hj3
          go_wp2
          go_ret
          exact ⟨rfl, HK.out.b.trans (HBx.out.mono hwb)⟩
end Go.Proofs.YtgjjcbcmjbnfnaaDoor
