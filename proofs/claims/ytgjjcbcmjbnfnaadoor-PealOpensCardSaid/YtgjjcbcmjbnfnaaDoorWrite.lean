/- The walk of write; no statement of the seat is proved here. -/
import Derived.Test.YtgjjcbcmjbnfnaaDoorChunk
import Derived.Test.YtgjjcbcmjbnfnaaDoorShow
import Derived.Deep.DeepCutAuto
import Derived.Sort.CutIn
namespace Go.Proofs.YtgjjcbcmjbnfnaaDoor
open Go.RowKit
attribute [local go_sem] Oper.semAt_some

def pad (l : List UInt8) : List UInt8 := l ++ List.replicate (128 - l.length) 0
def partB (c : List UInt8) (k : Nat) : List UInt8 := (c.drop (128 * k)).take 128
def putStep (c : List UInt8) (st : List UInt8 × Nat) (k : Nat) : List UInt8 × Nat := (blkSet st.1 st.2 (pad (partB c k)), st.2 + 1)
/-- The bytes of the disk behind the writing of some parts, one block each. -/
def putParts (c : List UInt8) (st : List UInt8 × Nat) (ks : List Nat) : List UInt8 × Nat := ks.foldl (putStep c) st
theorem putParts_snoc (c : List UInt8) (st : List UInt8 × Nat) (ks : List Nat) (k : Nat) : putParts c st (ks ++ [k]) = putStep c (putParts c st ks) k := by simp [putParts]
theorem putParts_at (c : List UInt8) (ks : List Nat) : ∀ st, (putParts c st ks).2 = st.2 + ks.length := by
  induction ks with
  | nil => intro st; rfl
  | cons k ks ih => intro st; rw [putParts, List.foldl_cons]; have := ih (putStep c st k); rw [putParts] at this; rw [this]; simp [putStep]; omega
theorem partB_length (c : List UInt8) (x : Part c.length) : (partB c x.1).length = x.len := by simp [partB, Part.len]
theorem partsUpto_map (n m : Nat) (h : 128 * m < n + 128) : (partsUpto n m).map (·.1) = List.range m := by
  induction m with
  | zero => rfl
  | succ m ih => rw [partsUpto_succ (by omega), List.map_append, ih (by omega), List.range_succ]; rfl
theorem partsUpto_range (n : Nat) : (partsUpto n (nParts n)).map (·.1) = List.range (nParts n) := partsUpto_map n _ (nParts_lt (Nat.le_refl _))
theorem pad_length (l : List UInt8) (h : l.length ≤ 128) : (pad l).length = 128 := by simp [pad]; omega

/-- The bytes of the disk behind write. -/
def wroteBs (bs : List UInt8) (no : Nat) (c : List UInt8) : List UInt8 :=
  blkSet (putParts c (bs, start1 no) (List.range (nParts c.length))).1 (no % 2) (pad (rbytes no c.length (sum48 c)))

theorem SRd.of_own {w : World} {base : Nat} {v : Value} {ts : List ByteArray} (h : w.ownsRow base 9 1 v ts.length (strs ts)) : SRd w v ts := by
  rcases h.2 with ⟨h0, h1⟩ | ⟨g, cap, cur, hv, hb, hgg, hnc, r⟩
  · have h2 : ts = [] := List.length_eq_zero_iff.1 h1
    subst h2
    exact ⟨none, 0, h0, Nat.le_refl _, fun j s hj => by simp at hj⟩
  · refine ⟨some ⟨g, 0, none⟩, cap, hv, hnc, fun j s hj => ⟨g, 0, rfl, ?_⟩⟩
    subst hv
    have := h.cells (g := g) rfl j (.string s) (by simp [strs, hj])
    rwa [add_addr] at this

/-! ### the loop over the parts -/

theorem write_ok (b : Nat) (w : World) (s : Dk) (k : Int) (g o n c : Nat) (l : List UInt8) (hD : IsDisk w b s) (hd : s.down = false) (h0k : 0 ≤ k) (hk : k < 32) (hn : n ≤ 128) (hln : l.length = n)
    (hl : ∀ j u, (bvs l)[j]? = some u → w.cell? ((⟨g, o, none⟩ : Addr).add j) = some u) (hgb : g ≠ b) (hleft : s.left = 0) :
    Calls Tryd.prog 32 #[.pointer (some ⟨b, 0, none⟩), .int .i64 k, .slice (some ⟨g, o, none⟩) n c] w fun e w' =>
      e = .returned (.int .i64 0) ∧ IsDisk w' b (s.put k.toNat l) ∧ Upd w.heap.size [b, s.bm] w w' := by
  refine (write_any b w s k g o n c l hD hd h0k hk hn hln hl hgb (by omega) (by omega)).mono fun e w' h => ?_
  have e1 : s.actE = 0 := by simp [Dk.actE, hleft]
  have e2 : (s.put k.toNat l).act = s.put k.toNat l := by simp [Dk.act, Dk.put, hleft]
  rw [e1, e2] at h
  exact h

theorem sync_ok (b : Nat) (w : World) (s : Dk) (hD : IsDisk w b s) (hd : s.down = false) (hl : s.left = 0) :
    Calls Tryd.prog 27 #[.pointer (some ⟨b, 0, none⟩)] w fun e w' => e = .returned (.int .i64 0) ∧ (∃ m, w.heap.size ≤ m ∧ IsDisk w' b { s with bm := m, sy := [] }) ∧ Upd w.heap.size [b] w w' := by
  refine (sync_any b w s hD hd (by omega) (by omega)).mono fun e w' h => ?_
  have e1 : s.actE = 0 := by simp [Dk.actE, hl]
  have e2 : s.act = s := by simp [Dk.act, hl]
  rw [e1, e2] at h
  exact ⟨h.1, h.2.2.1 (by omega), h.2.2.2⟩

theorem rwritten_int (w : World) (n m k : Int) (no size sm : Nat) (hn : n = no) (hm : m = size) (hk : k = sm) (h1 : no < 4611686018427387904) (h2 : size < 4611686018427387904) (h3 : sm < 4611686018427387904) :
    Calls Tryd.prog 69 #[.agg #[.int .i64 n, .int .i64 m, .int .i64 k]] w fun e w' => ∃ g cap, e = .returned (.slice (some ⟨g, 0, none⟩) 28 cap) ∧ SlB w' g 0 cap (rbytes no size sm) ∧ w.heap.size ≤ g ∧ Below w.heap.size w w' := by
  subst hn; subst hm; subst hk
  refine (rwritten_any w no size sm h1 h2 h3).mono fun e w' h => ?_
  obtain ⟨v, rfl, hown, hb, hne⟩ := h
  rcases hown.2 with ⟨h0, h4⟩ | ⟨g, cap, cur, hv, _⟩
  · omega
  · subst hv
    obtain ⟨a1, a2, a3⟩ := SlB.of_own hown
    exact ⟨g, cap, rfl, a1, a2, hb⟩

theorem SlB.adds {w : World} {g o cap : Nat} {l : List UInt8} (h : SlB w g o cap l) : ∀ j u, (bvs l)[j]? = some u → w.cell? ((⟨g, o, none⟩ : Addr).add j) = some u := fun j u hj => by rw [add_addr]; exact h.2 j u hj

theorem keep5 {B : Nat} {w w' : World} {S : List Nat} {h p R : Nat} {x1 x2 x3 x4 x5 : Value}
    (hS : w.cell? ⟨h, 0, none⟩ = some x1 ∧ w.cell? ⟨p, 2, none⟩ = some x2 ∧ w.cell? ⟨R, 0, none⟩ = some x3 ∧ w.cell? ⟨R, 1, none⟩ = some x4 ∧ w.cell? ⟨R, 2, none⟩ = some x5)
    (hU : Upd B S w w') (b1 : h < B) (b2 : p < B) (b3 : R < B) (n1 : h ∉ S) (n2 : p ∉ S) (n3 : R ∉ S) :
    w'.cell? ⟨h, 0, none⟩ = some x1 ∧ w'.cell? ⟨p, 2, none⟩ = some x2 ∧ w'.cell? ⟨R, 0, none⟩ = some x3 ∧ w'.cell? ⟨R, 1, none⟩ = some x4 ∧ w'.cell? ⟨R, 2, none⟩ = some x5 :=
  ⟨(hU.cell (p := ⟨h, 0, none⟩) b1 n1).trans hS.1, (hU.cell (p := ⟨p, 2, none⟩) b2 n2).trans hS.2.1, (hU.cell (p := ⟨R, 0, none⟩) b3 n3).trans hS.2.2.1, (hU.cell (p := ⟨R, 1, none⟩) b3 n3).trans hS.2.2.2.1, (hU.cell (p := ⟨R, 2, none⟩) b3 n3).trans hS.2.2.2.2⟩

theorem kset {w : World} {h p R : Nat} {x1 x3 x4 x5 : Value}
    (hS : w.cell? ⟨h, 0, none⟩ = some x1 ∧ w.cell? ⟨R, 0, none⟩ = some x3 ∧ w.cell? ⟨R, 1, none⟩ = some x4 ∧ w.cell? ⟨R, 2, none⟩ = some x5) (n1 : h ≠ p) (n3 : R ≠ p) (j : Nat) (u : Value) :
    (w.setCell ⟨p, j, none⟩ u).cell? ⟨h, 0, none⟩ = some x1 ∧ (w.setCell ⟨p, j, none⟩ u).cell? ⟨R, 0, none⟩ = some x3 ∧ (w.setCell ⟨p, j, none⟩ u).cell? ⟨R, 1, none⟩ = some x4 ∧ (w.setCell ⟨p, j, none⟩ u).cell? ⟨R, 2, none⟩ = some x5 := by
  have e : ∀ k i, k ≠ p → (w.setCell ⟨p, j, none⟩ u).cell? ⟨k, i, none⟩ = w.cell? ⟨k, i, none⟩ := fun k i hk => World.cell?_of_block (w := w) (Below.heap_setCell _ _ _ _ hk)
  rw [e _ _ n1, e _ _ n3, e _ _ n3, e _ _ n3]
  exact hS

theorem IsList.setRoot {w : World} {p b : Nat} {L : Ls} {ts : List ByteArray} (h : IsList w p b L ts) (x : Int) (a : Nat) (hx : x = a) : IsList (w.setCell ⟨p, 5, none⟩ (.int .i64 x)) p b { L with root := (a, L.root.2.1, L.root.2.2) } ts := by
  subst hx; exact h.set 5 _ _ rfl rfl
theorem IsList.setSize {w : World} {p b : Nat} {L : Ls} {ts : List ByteArray} (h : IsList w p b L ts) (a : Nat) : IsList (w.setCell ⟨p, 6, none⟩ (.int .i64 a)) p b { L with root := (L.root.1, a, L.root.2.2) } ts := h.set 6 _ _ rfl rfl
theorem IsList.setSum {w : World} {p b : Nat} {L : Ls} {ts : List ByteArray} (h : IsList w p b L ts) (a : Nat) : IsList (w.setCell ⟨p, 7, none⟩ (.int .i64 a)) p b { L with root := (L.root.1, L.root.2.1, a) } ts := h.set 7 _ _ rfl rfl
theorem IsList.setDirty {w : World} {p b : Nat} {L : Ls} {ts : List ByteArray} (h : IsList w p b L ts) (x : Bool) : IsList (w.setCell ⟨p, 8, none⟩ (.bool x)) p b { L with dirty := x } ts := h.set 8 _ _ rfl rfl
theorem IsList.setBroken {w : World} {p b : Nat} {L : Ls} {ts : List ByteArray} (h : IsList w p b L ts) (x : Bool) : IsList (w.setCell ⟨p, 1, none⟩ (.bool x)) p b { L with broken := x } ts := h.set 1 _ _ rfl rfl
theorem IsList.drew {w : World} {p b : Nat} {L : Ls} {ts : List ByteArray} (h : IsList w p b L ts) : IsList w.drew p b L ts := ⟨h.heap, own_drew h.own⟩

theorem IsList.keepO {w w' : World} {p b : Nat} {L : Ls} {ts : List ByteArray} {B : Nat} {S : List Nat} (h : IsList w p b L ts) (hU : Upd B S w w') (hB : w.heap.size ≤ B) (hp : p ∉ S) (hS : ∀ g ∈ S, L.texts.ownBlock ≠ some g) : IsList w' p b L ts :=
  ⟨(hU.block p (Nat.lt_of_lt_of_le h.lt hB) hp).trans h.heap, own_keep h.own (fun g _ hg ho => hU.block g (Nat.lt_of_lt_of_le (heap_lt hg) hB) (fun hx => hS g hx ho))⟩
theorem Upd.putObjW {B : Nat} {S : List Nat} {a w : World} (h : Upd B S a w) (g : Nat) (hp : B ≤ g ∨ g ∈ S) (o : Obj) (hB : B ≤ w.heap.size) : Upd B S a (w.putObj g o) := by
  have hg := grownBy_putObj' w g o
  exact h.trans ⟨hg.os, hg.tape, hg.output, hg.size, fun k _hk hs => hg.block k (by omega) (fun e => by cases e; rcases hp with h1 | h1; omega; exact hs h1)⟩

structure WrI (H : Nat) (W0 : World) (b A : Nat) (s : Dk) (c : List UInt8) (at0 : Nat) (ks : List Nat) (W : World) : Prop where
  disk : ∃ s', IsDisk W b s' ∧ s'.bs = (putParts c (s.bs, at0) ks).1 ∧ s'.left = 0 ∧ s'.down = false ∧ s'.turn = s.turn ∧ s'.opened = s.opened ∧ s'.bm = s.bm
  pos : W.heap[A]? = some (.cells [.int .i64 ((at0 + ks.length : Nat) : Int)].toArray 3)
  upd : Upd H [b, s.bm, A] W0 W

theorem Upd.of_grownBy {B : Nat} {A C : World} {row : Option Nat} (hg : A.grownBy C row) (hB : B ≤ A.heap.size) (hr : ∀ r, row = some r → B ≤ r) : Upd B [] A C :=
  ⟨hg.os, hg.tape, hg.output, hg.size, fun k hk _ => hg.block k (by omega) (fun e => by have := hr k e.symm; omega)⟩

theorem WrI.own {H : Nat} {W0 : World} {b A : Nat} {s : Dk} {c : List UInt8} {at0 : Nat} {n : Nat} (hH : H ≤ W0.heap.size) (hb : b < H) (hm : s.bm < H) (hA : A < H) : OwnFrom H (fun (pre : List (Part n)) => WrI H W0 b A s c at0 (pre.map (·.1))) := by
  intro pre X Y row h hg hr
  have hU : Upd H [] X Y := Upd.of_grownBy hg (Nat.le_trans hH h.upd.size) (fun r e => (hr r e).1)
  obtain ⟨s', hD, h1, h2, h3, h4, h5, h6⟩ := h.disk
  exact ⟨⟨s', hD.keep hU hb (by rw [h6]; exact hm) (by simp) (by simp), h1, h2, h3, h4, h5, h6⟩, (hU.block A hA (by simp)).trans h.pos, h.upd.trans (hU.mono (Nat.le_refl _) (by simp))⟩

theorem WrI.step {H : Nat} {W0 : World} {b A : Nat} {s : Dk} {c : List UInt8} {at0 : Nat} {ks : List Nat} {W W' : World} {s' : Dk} (k : Nat) (h : WrI H W0 b A s c at0 ks W) (hs : s'.bs = (putParts c (s.bs, at0) ks).1 ∧ s'.left = 0 ∧ s'.down = false ∧ s'.turn = s.turn ∧ s'.opened = s.opened ∧ s'.bm = s.bm)
    (hH : H ≤ W0.heap.size) (hbA : b ≠ A) (hmA : s.bm ≠ A) (hA : A < H) (hD : IsDisk W' b (s'.put (at0 + ks.length) (partB c k))) (hU : Upd W.heap.size [b, s'.bm] W W') :
    WrI H W0 b A s c at0 (ks ++ [k]) (W'.setCell ⟨A, 0, none⟩ (.int .i64 ((at0 + ks.length : Nat) + 1 : Int))) := by
  obtain ⟨h1, h2, h3, h4, h5, h6⟩ := hs
  have hHW : H ≤ W.heap.size := Nat.le_trans hH h.upd.size
  have hpos : W'.heap[A]? = some (.cells [.int .i64 ((at0 + ks.length : Nat) : Int)].toArray 3) := (hU.block A (by omega) (by rw [h6]; simp; exact ⟨fun e => hbA e.symm, fun e => hmA e.symm⟩)).trans h.pos
  refine ⟨⟨s'.put (at0 + ks.length) (partB c k), ?_, ?_, h2, h3, h4, h5, h6⟩, ?_, ?_⟩
  · refine ⟨(Below.heap_setCell _ _ _ _ (fun e => hbA e)).trans hD.heap, hD.len, hD.map.of_heap (Below.heap_setCell _ _ _ _ (fun e => hmA ?_)), hD.ne⟩
    have : s'.bm = A := e
    rw [← h6, this]
  · rw [putParts_snoc]
    show blkSet s'.bs _ _ = _
    simp only [putStep, putParts_at, h1, pad]
  · rw [setCell_heap 0 _ hpos]
    simp; omega
  · refine h.upd.trans (((hU.mono hHW (fun x hx => ?_)).setCell _ (.inr (by simp)) _))
    left
    rw [h6] at hx
    simp at hx ⊢
    rcases hx with hx | hx
    · exact .inl hx
    · exact .inr (.inl hx)

theorem KeepsFrom.of_upd {H : Nat} {W W' : World} {S : List Nat} (hU : Upd W.heap.size S W W') (hS : ∀ x ∈ S, x < H) : KeepsFrom H W W' :=
  ⟨hU.size, fun k o hB hk _ => (hU.block k (heap_lt hk) (fun hx => by have := hS k hx; omega)).trans hk⟩

set_option maxHeartbeats 4000000 in
set_option maxRecDepth 100000 in
theorem write49_any (p b : Nat) (w : World) (L : Ls) (ts : List ByteArray) (s : Dk) (hL : IsList w p b L ts) (hD : IsDisk w b s) (hd : s.down = false) (hl : s.left = 0) (hr : L.root.1 < 140737488355328)
    (hlast : L.last < 281474976710656) (hmark : L.mark < 281474976710656) (hts : ts.length ≤ 40) (h24 : ∀ t ∈ ts, t.size ≤ 24) :
    Calls Tryd.prog 49 #[.pointer (some ⟨p, 0, none⟩)] w fun e w' => e = .returned (.int .i64 0) ∧ ∃ bm, w.heap.size ≤ bm ∧
      IsDisk w' b { s with bs := wroteBs s.bs (L.root.1 + 1) (cbytes L.last L.mark ts), bm := bm, sy := [] } ∧
      IsList w' p b { L with root := (L.root.1 + 1, (cbytes L.last L.mark ts).length, sum48 (cbytes L.last L.mark ts)), dirty := false } ts ∧ Upd w.heap.size [p, b, s.bm] w w' := by
  have c5 := hL.c5
  have c9 := hL.c9
  have c10 := hL.c10
  have c11 := hL.c11
  have hSR := SRd.of_own hL.own
  have hplt := hL.lt
  obtain ⟨c, hc⟩ : ∃ c, c = cbytes L.last L.mark ts := ⟨_, rfl⟩
  have hclen : c.length ≤ 1018 ∧ 18 ≤ c.length := by
    have h1 := txts_le ts h24
    rw [hc]; simp [cbytes]; omega
  rw [← hc]
  have HC := Lib.hid hc
  have HL := Lib.hid hL
  have HD := Lib.hid hD
  have HH := Lib.hid h24
  obtain ⟨r0, hr0⟩ : ∃ r0, r0 = L.root.1 := ⟨_, rfl⟩
  rw [← hr0] at c5 hr ⊢
  have HR0 := Lib.hid hr0
  clear hL hD h24 hc hr0
  refine (callsIn_wide (n := 9)).1 ?_
  refine callsIn_of_wp_marks Tryd.func49 rfl trivial ?_ rfl
  simp only [Tryd.ntmps49, List.size_toArray, List.length_cons, List.length_nil, Nat.reduceAdd, Nat.reduceSub, Array.replicate_succ, Array.replicate_zero, List.push_toArray, List.append_toArray, List.nil_append, List.cons_append]
  refine wpIn_wide.2 ?_
  go_wp2_with fail
  refine (cwritten_any _ L.last L.mark L.texts ts (by omega) (by omega) hts HH.out ?_).mono ?_
  · obtain ⟨a, cc, h1, h2, h3⟩ := hSR
    refine ⟨a, cc, h1, h2, fun j t hj => ?_⟩
    obtain ⟨g, o, e, hcell⟩ := h3 j t hj
    refine ⟨g, o, e, ?_⟩
    rw [World.cell?_alloc_some _ _ _ (by rw [World.cell?_alloc_some _ _ _ (by rw [hcell]; rfl)]; rw [hcell]; rfl), World.cell?_alloc_some _ _ _ (by rw [hcell]; rfl)]
    exact hcell
  rintro e W1 ⟨v', rfl, hown, hb1⟩
  rw [← HC.out] at hown
  obtain ⟨g, cv, rfl⟩ : ∃ g cv, v' = .slice (some ⟨g, 0, none⟩) c.length cv := by
    rcases hown.2 with ⟨h0, h1⟩ | ⟨g, cap, cur, hv, _⟩
    · omega
    · exact ⟨g, cap, hv⟩
  obtain ⟨hSl, hgb, _⟩ := SlB.of_own hown
  have hsz1 : w.heap.size + 2 ≤ W1.heap.size := by have := hb1.size; simpa using this
  have hbw : Below w.heap.size w W1 := (((Below.refl _ w).alloc (Nat.le_refl _) _).alloc (by simp) _).trans (hb1.mono (by simp; omega))
  have hgb2 : w.heap.size + 2 ≤ g := by simpa using hgb
  have hglt : g < W1.heap.size := World.block_lt_of_cell? W1 _ (hSl.2 0 (bv (c[0]'(by omega))) (by rw [bvs_getElem?, List.getElem?_eq_getElem (by omega)]; rfl))
  obtain ⟨W2, hW2⟩ : ∃ W2, W2 = W1.drew := ⟨_, rfl⟩
  have hb2 : Below w.heap.size w W2 := by rw [hW2]; exact hbw.drew
  have hsz2 : W2.heap.size = W1.heap.size := by rw [hW2]; rfl
  have hSl2 : SlB W2 g 0 cv c := by rw [hW2]; exact hSl
  have k5 : W2.cell? ⟨p, 5, none⟩ = some (.int .i64 r0) := by rw [hb2.cell (p := ⟨p, 5, none⟩) hplt]; exact c5
  have kb1 : W1.cell? ⟨w.heap.size, 0, none⟩ = some (.pointer (some ⟨p, 0, none⟩)) := by
    rw [hb1.cell (p := ⟨w.heap.size, 0, none⟩) (by simp; omega)]; simp
  have ke1 : W1.cell? ⟨w.heap.size + 1, 0, none⟩ = some (.int .i64 0) := by
    rw [hb1.cell (p := ⟨w.heap.size + 1, 0, none⟩) (by simp)]; simp
  have kf1 : W1.frozen? ⟨w.heap.size + 1, 0, none⟩ = false := by
    rw [hb1.frozen (p := ⟨w.heap.size + 1, 0, none⟩) (by simp)]; simp
  have kb2 : W2.cell? ⟨w.heap.size, 0, none⟩ = some (.pointer (some ⟨p, 0, none⟩)) := by rw [hW2]; exact kb1
  have ke2 : W2.cell? ⟨w.heap.size + 1, 0, none⟩ = some (.int .i64 0) := by rw [hW2]; exact ke1
  have kf2 : W2.frozen? ⟨w.heap.size + 1, 0, none⟩ = false := by rw [hW2]; exact kf1
  have hw1 : IntKind.i64.wrap ((r0 : Int) + 1) = (r0 : Int) + 1 := by rw [IntKind.wrap_i64]; omega
  have HKB := Lib.hid kb1
  have HKE := Lib.hid ke1
  have HKF := Lib.hid kf1
  have HB2 := Lib.hid hb2
  have HW2 := Lib.hid hW2
  have HSL := Lib.hid hSl2
  have HS2 := Lib.hid hsz2
  have HBW := Lib.hid hbw
  clear hb2 hW2 hSl2 hSl hown hb1 hbw hgb hsz2 kb1 ke1 kf1 c5 c9 c10 c11 hSR
  have hk0 : (W1.drew.cell? ⟨p, 5, none⟩ = some (.int .i64 r0) ∧ W1.drew.cell? ⟨w.heap.size, 0, none⟩ = some (.pointer (some ⟨p, 0, none⟩))) ∧ Hid (SlB W1.drew g 0 cv c) := by
    have e := HW2.out
    rw [← e]
    exact ⟨⟨k5, kb2⟩, HSL⟩
  have hka : ∀ o, ((W1.drew.alloc o).cell? ⟨p, 5, none⟩ = some (.int .i64 r0) ∧ (W1.drew.alloc o).cell? ⟨w.heap.size, 0, none⟩ = some (.pointer (some ⟨p, 0, none⟩))) ∧ Hid (SlB (W1.drew.alloc o) g 0 cv c) := fun o =>
    ⟨⟨by rw [World.cell?_alloc_some _ _ _ (by rw [hk0.1.1]; rfl)]; exact hk0.1.1, by rw [World.cell?_alloc_some _ _ _ (by rw [hk0.1.2]; rfl)]; exact hk0.1.2⟩, hk0.2.out.below ((Below.refl W1.heap.size W1.drew).alloc (Nat.le_refl _) o) hglt⟩
  have HK0 := Lib.hid hk0
  have HKA := Lib.hid hka
  clear hk0 hka
  go_upto_region 2 with fail
  go_cut [4] from 17 to 27 (fun s4 wc => s4 = .pointer (some ⟨W1.heap.size, 0, none⟩) ∧ W1.drew.alloc (.cells [.int .i64 ((r0 : Int) + 1), .int .i64 c.length, .int .i64 (sum48 c)].toArray 89) = wc)
  case first =>
    go_region_held3 (fun w' => (w'.cell? ⟨p, 5, none⟩ = some (.int .i64 r0) ∧ w'.cell? ⟨w.heap.size, 0, none⟩ = some (.pointer (some ⟨p, 0, none⟩))) ∧ Hid (SlB w' g 0 cv c))
      (first | assumption | exact HK0.out | exact HKA.out _)
      (first | (go_at_call 66; refine ((SlB.brd (by have h := ‹(_ ∧ _) ∧ Hid (SlB _ g 0 cv c)›; exact h.2.out)).sum (by omega)).mono ?_; rintro e w7 ⟨rfl, rfl⟩))
    all_goals
      clear hw1
      go_wp2_with fail
      go_meet
      exact ⟨rfl, rfl⟩
  case rest =>
    obtain ⟨rfl, hW3⟩ := hcut
    obtain ⟨w3, rfl⟩ : ∃ x, x = wc := ⟨_, rfl⟩
    clear hw1 HK0 HKA k5 kb2 ke2 kf2
    have hz1 : W1.drew.heap.size = W1.heap.size := rfl
    have r0c : w3.cell? ⟨W1.heap.size, 0, none⟩ = some (.int .i64 ((r0 : Int) + 1)) := by rw [← hW3, cell_of_heap (alloc_new _ hz1.symm)]; rfl
    have hb3 : Below W1.heap.size W1 w3 := by rw [← hW3]; exact (Below.refl W1.heap.size W1).drew.alloc (Nat.le_refl _) _
    have hsz3 : w3.heap.size = W1.heap.size + 1 := by rw [← hW3]; simp
    have hr3 : w3.heap[W1.heap.size]? = some (.cells [.int .i64 ((r0 : Int) + 1), .int .i64 c.length, .int .i64 (sum48 c)].toArray 89) := by rw [← hW3]; exact alloc_new _ hz1.symm
    have HW3 := Lib.hid hW3
    have HB3 := Lib.hid hb3
    have HR3 := Lib.hid hr3
    have HS3 := Lib.hid hsz3
    clear hW3 hb3 hz1 hr3 hsz3
    have hpn : (0 : Int) ≤ (r0 : Int) + 1 := by omega
    have hpm : (0 : Int) ≤ ((r0 : Int) + 1) % 2 ∧ ((r0 : Int) + 1) % 2 < 1000 := by omega
    have hpm0 := hpm.1
    have hpm1 := hpm.2
    clear hpm
    go_wp2_with (first | (go_at_call 64; refine (start_any _ _ hpm0 hpm1).mono ?_; rintro e w' ⟨rfl, rfl⟩) | (go_at_call 68; refine (chunk_any _ _ _ _).mono ?_; rintro e w' ⟨rfl, rfl⟩))
    have hno : (2 + ((r0 : Int) + 1) % 2 * 15) = ((start1 (r0 + 1) : Nat) : Int) := by unfold start1; omega
    have hat : start1 (r0 + 1) ≤ 17 := by unfold start1; omega
    obtain ⟨W0, hW0⟩ : ∃ W0, ((w3.alloc (.cells #[.int .i64 (2 + ((r0 : Int) + 1) % 2 * 15)] 3)).alloc (.cells #[.slice (some ⟨g, 0, none⟩) c.length cv] 63)).alloc (.cells #[.int .i64 128] 3) = W0 := ⟨_, rfl⟩
    rw [hW0]
    have hz0 : w3.heap.size + 3 ≤ W0.heap.size := by rw [← hW0]; simp
    have hb0 : Below w3.heap.size w3 W0 := by rw [← hW0]; exact (((Below.refl _ _).alloc (Nat.le_refl _) _).alloc (by simp) _).alloc (by simp; omega) _
    have hpos0 : W0.heap[w3.heap.size]? = some (.cells [.int .i64 ((start1 (r0 + 1) : Nat) : Int)].toArray 3) := by
      rw [← hW0, hno, Below.heap_alloc _ _ _ (by simp; omega), Below.heap_alloc _ _ _ (by simp), alloc_new _ rfl]
    have hS0 : W0.heap[w3.heap.size + 1]? = some (.cells [.slice (some ⟨g, 0, none⟩) c.length cv].toArray 63) := by
      rw [← hW0, Below.heap_alloc _ _ _ (by simp), alloc_new _ (by simp)]
    have hN0 : W0.heap[w3.heap.size + 1 + 1]? = some (.cells [.int .i64 128].toArray 3) := by
      rw [← hW0, alloc_new _ (by simp)]
    have cS : W0.cell? ⟨w3.heap.size + 1, 0, none⟩ = some (.slice (some ⟨g, 0, none⟩) c.length cv) := by rw [cell_of_heap hS0]; rfl
    have cN : W0.cell? ⟨w3.heap.size + 1 + 1, 0, none⟩ = some (.int .i64 128) := by rw [cell_of_heap hN0]; rfl
    have hsz3 : W1.heap.size + 1 ≤ w3.heap.size := Nat.le_of_eq HS3.out.symm
    have hb1w : Below W1.heap.size W1 W0 := HB3.out.trans (hb0.mono (by omega))
    have hbw0 : Below w.heap.size w W0 := HBW.out.trans (hb1w.mono (by omega))
    have hblt := HD.out.lt
    have hmlt := HD.out.map.lt
    have hD0 : IsDisk W0 b s := HD.out.keep (Upd.of_below hbw0 []) hblt hmlt (by simp) (by simp)
    have hSl0 : SlB W0 g 0 cv c := by
      have h := HSL.out
      rw [HW2.out] at h
      exact SlB.below (w := W1) h hb1w hglt
    have q1 : W0.cell? ⟨w.heap.size, 0, none⟩ = some (.pointer (some ⟨p, 0, none⟩)) := by
      rw [hb1w.cell (p := ⟨w.heap.size, 0, none⟩) (by show w.heap.size < _; omega)]; exact HKB.out
    have q2 : W0.cell? ⟨p, 2, none⟩ = some (.pointer (some ⟨b, 0, none⟩)) := by
      rw [hbw0.cell (p := ⟨p, 2, none⟩) hplt]; exact HL.out.c2
    have hbp : b ≠ p := by
      intro e
      have h1 := HD.out.heap
      rw [e, HL.out.heap] at h1
      have h2 := congrArg (fun o => match o with | some (Obj.cells _ t _) => t | _ => 0) h1
      simp at h2
    have hmp : s.bm ≠ p := by
      intro e
      obtain ⟨es, clk, h1, _⟩ := HD.out.map.ex
      rw [e, HL.out.heap] at h1
      cases h1
    have HS0 := Lib.hid hSl0
    have HD0 := Lib.hid hD0
    have HP0 := Lib.hid hpos0
    have HW0 := Lib.hid hW0
    have HB0 := Lib.hid hbw0
    have HB1 := Lib.hid hb1w
    have HB3' : Hid (Below w3.heap.size w3 W0) := Lib.hid hb0
    clear hno hSl0 hD0 hpos0 hW0 hbw0 hb1w hS0 hN0 hb0 r0c hpn hpm0 hpm1
    refine (wpIn_wide (n := 9)).1 ?_
    refine wpIn_rangeFunc_ownG (F := Fence.wide) rfl (by omega) (gf := 85) (lb := #[.pointer (some ⟨w3.heap.size + 1, 0, none⟩), .pointer (some ⟨w3.heap.size + 1 + 1, 0, none⟩)]) rfl trivial (enters_of Tryd.func85 (by kernel_rfl) rfl)
      (chunk_stops 8 (by omega) (w3.heap.size + 1) (w3.heap.size + 1 + 1) g c.length cv (by omega) HS0.out.1 W0 (by omega) (by omega) cS cN) (fun h k => h.trans k) ?kb (Below.refl _ _) (fun _ => rfl)
      (fun pre W => WrI W0.heap.size W0 b w3.heap.size s c (start1 (r0 + 1)) (pre.map (·.1)) W) (fun _ _ _ => False)
      (WrI.own (Nat.le_refl _) (by omega) (by omega) (by omega)) (fun _ _ _ _ _ h _ _ => h) ⟨⟨s, HD0.out, rfl, hl, hd, rfl, rfl, rfl⟩, HP0.out, Upd.refl _ _ _⟩
      (fun x => { tmps := #[.pointer (some ⟨p, 0, none⟩), .pointer (some ⟨w.heap.size, 0, none⟩), .pointer (some ⟨w.heap.size + 1, 0, none⟩), .slice (some ⟨g, 0, none⟩) c.length cv, .pointer (some ⟨W1.heap.size, 0, none⟩), .int .i64 (((r0 : Int) + 1) % 2), .pointer (some ⟨w3.heap.size, 0, none⟩), partV g c.length x, undef, undef, undef, undef, .pointer (some ⟨p, 0, none⟩), .pointer (some ⟨p, 0, none⟩), .pointer (some ⟨p, 9, none⟩), .agg #[.int .i64 L.last, .int .i64 L.mark, L.texts], .slice (some ⟨g, 0, none⟩) c.length cv, u17, u18, u19, u20, u21, u22, u23, u24, u25, u26, u27, .pointer (some ⟨W1.heap.size, 0, none⟩), .int .i64 ((r0 : Int) + 1), .int .i64 (((r0 : Int) + 1) % 2), .int .i64 (((r0 : Int) + 1) % 2), .int .i64 (2 + ((r0 : Int) + 1) % 2 * 15), .slice (some ⟨g, 0, none⟩) c.length cv, .func (.func 85) #[] #[.pointer (some ⟨w3.heap.size + 1, 0, none⟩), .pointer (some ⟨w3.heap.size + 1 + 1, 0, none⟩)], partV g c.length x, undef, undef, undef, undef, undef, undef, undef, undef, undef, undef, undef, undef, undef, undef, undef, undef, undef, undef, undef, undef, undef, undef, undef, undef, undef, undef, undef, undef, undef, undef, undef, undef, undef, undef, undef, undef, undef, undef, undef, undef, undef, undef, undef, undef, undef, undef], defers := [] }) ?assign ?body ?done ?stop
    case kb =>
      intro W k o o' hk ho _ _
      have hlt := heap_lt ho
      have hg := grownBy_putObj' W k o'
      exact ⟨hg.block _ (by omega) (fun e => by cases e; omega), hg.block _ (by omega) (fun e => by cases e; omega)⟩
    case assign =>
      intro k x W K hK
      gi_wp2
      exact hK
    case body =>
      rintro l1 pre x W hI hlt
      obtain ⟨s1, hD1, hs1⟩ := hI.disk
      have e1 : W.cell? ⟨w.heap.size, 0, none⟩ = some (.pointer (some ⟨p, 0, none⟩)) := by
        rw [hI.upd.cell (p := ⟨w.heap.size, 0, none⟩) (by show w.heap.size < _; omega) (by simp; omega)]; exact q1
      have e2 : W.cell? ⟨p, 2, none⟩ = some (.pointer (some ⟨b, 0, none⟩)) := by
        rw [hI.upd.cell (p := ⟨p, 2, none⟩) (by show p < _; omega) (by simp; exact ⟨fun e => hbp e.symm, fun e => hmp e.symm, by omega⟩)]; exact q2
      have e3 : W.cell? ⟨w3.heap.size, 0, none⟩ = some (.int .i64 ((start1 (r0 + 1) + (pre.map (·.1)).length : Nat) : Int)) := by
        rw [cell_of_heap hI.pos]; rfl
      have e4 : W.frozen? ⟨w3.heap.size, 0, none⟩ = false := frozen_of_heap hI.pos
      obtain ⟨q, hq⟩ : ∃ q, q = start1 (r0 + 1) + (pre.map (·.1)).length := ⟨_, rfl⟩
      have hq32 : q < 32 := by
        rw [hq, List.length_map]
        have : nParts c.length ≤ 8 := by unfold nParts; omega
        omega
      rw [← hq] at e3
      have hq0 : (0 : Int) ≤ (q : Int) := by omega
      have hq1 : (q : Int) < 32 := by omega
      have hx : partV g c.length x = .slice (some ⟨g, 128 * x.1, none⟩) x.len x.len := rfl
      rw [hx]
      have hxl : x.len ≤ 128 := by unfold Part.len; omega
      have hxb : ∀ j u, (bvs (partB c x.1))[j]? = some u → W.cell? ((⟨g, 128 * x.1, none⟩ : Addr).add j) = some u := by
        intro j u hj
        rw [add_addr, hI.upd.cell (p := ⟨g, 128 * x.1 + j, none⟩) (by show g < _; omega) (by simp; omega)]
        rw [← Nat.zero_add (128 * x.1 + j)]
        refine HS0.out.2 _ _ ?_
        rw [partB, bvs_take, bvs_drop, List.getElem?_take] at hj
        split at hj
        · rw [List.getElem?_drop] at hj; exact hj
        · cases hj
      have HQ := Lib.hid hq
      have HXB := Lib.hid hxb
      have HI := Lib.hid hI
      have HS1 := Lib.hid hs1
      have HD1 := Lib.hid hD1
      clear hq hxb hI hs1 hD1 hx
      gi_wp2
      gi_cut [8] from 36 (fun s8 wx => s8 = .int .i64 0 ∧ IsDisk wx b (s1.put q (partB c x.1)) ∧ Upd W.heap.size [b, s1.bm] W wx)
      case first =>
        gi_region_with (refine ⟨trivial, ?_⟩; gi_at_call 32; refine (CallsIn.inRound l1 (callsIn_wide.2 (write_ok b W.drew s1 q g (128 * x.1) x.len x.len (partB c x.1) HD1.out.drew HS1.out.2.2.1 hq0 hq1 hxl (partB_length c x) HXB.out (by omega) HS1.out.2.1))).mono ?_; rintro e w' ⟨rfl, hD2, hU2⟩)
        all_goals (gi_wp2_with fail; gi_meet; exact ⟨rfl, hD2, hU2.undrew⟩)
      case rest =>
        obtain ⟨rfl, hD2, hU2⟩ := hcut
        have e3' : wc.cell? ⟨w3.heap.size, 0, none⟩ = some (.int .i64 q) := by
          rw [hU2.cell (p := ⟨w3.heap.size, 0, none⟩) (by show w3.heap.size < _; have := HI.out.upd.size; omega) (by rw [HS1.out.2.2.2.2.2]; simp; omega)]; exact e3
        have e4' : wc.frozen? ⟨w3.heap.size, 0, none⟩ = false := by
          rw [hU2.frozen (p := ⟨w3.heap.size, 0, none⟩) (by show w3.heap.size < _; have := HI.out.upd.size; omega) (by rw [HS1.out.2.2.2.2.2]; simp; omega)]; exact e4
        have HD2 := Lib.hid hD2
        have HU2 := Lib.hid hU2
        clear hD2 hU2 e3 e4 e1 e2
        gi_wp2
        have hm1 := HS1.out.2.2.2.2.2
        have hWs : W0.heap.size ≤ W.heap.size := HI.out.upd.size
        refine ⟨(KeepsFrom.of_upd HU2.out (by rw [hm1]; simp; omega)).trans ((KeepsOthers.setCell _ _ _).from _), ⟨?_, ?_⟩, ?_⟩
        · rw [Below.heap_setCell _ _ _ _ (by show w3.heap.size + 1 ≠ w3.heap.size; omega)]
          exact HU2.out.block _ (by omega) (by rw [hm1]; simp; omega)
        · rw [Below.heap_setCell _ _ _ _ (by show w3.heap.size + 1 + 1 ≠ w3.heap.size; omega)]
          exact HU2.out.block _ (by omega) (by rw [hm1]; simp; omega)
        · show WrI _ _ _ _ _ _ _ ((pre ++ [x]).map (·.1)) _
          rw [List.map_append]
          have hD2' := HD2.out
          have e5 : (Value.int .i64 ((q : Int) + 1)) = .int .i64 ((start1 (r0 + 1) + (pre.map (·.1)).length : Nat) + 1 : Int) := by rw [HQ.out]
          rw [HQ.out] at hD2'
          rw [e5]
          exact WrI.step x.1 HI.out HS1.out (Nat.le_refl _) (by omega) (by omega) (by omega) hD2' HU2.out
    case done =>
      rintro D ys W hDl rfl hI hK
      have hpu : (partsUpto c.length (nParts c.length)).map (·.1) = List.range (nParts c.length) := partsUpto_range _
      rw [hpu] at hI
      obtain ⟨s1, hD1, hs1⟩ := hI.disk
      have e1 : W.cell? ⟨w.heap.size, 0, none⟩ = some (.pointer (some ⟨p, 0, none⟩)) := by
        rw [hI.upd.cell (p := ⟨w.heap.size, 0, none⟩) (by show w.heap.size < _; omega) (by simp; omega)]; exact q1
      have e2 : W.cell? ⟨p, 2, none⟩ = some (.pointer (some ⟨b, 0, none⟩)) := by
        rw [hI.upd.cell (p := ⟨p, 2, none⟩) (by show p < _; omega) (by simp; exact ⟨fun e => hbp e.symm, fun e => hmp e.symm, by omega⟩)]; exact q2
      have HS1 := Lib.hid hs1
      have HD1 := Lib.hid hD1
      have HI := Lib.hid hI
      have HK := Lib.hid hK
      clear hs1 hD1 hI hK hpu q1 q2 cS cN
      have HSy := Lib.hid (sync_ok b W s1 HD1.out HS1.out.2.2.1 HS1.out.2.1)
      have hm1 := HS1.out.2.2.2.2.2
      have hWs : W0.heap.size ≤ W.heap.size := HI.out.upd.size
      have k5 : W.cell? ⟨w.heap.size, 0, none⟩ = some (.pointer (some ⟨p, 0, none⟩)) ∧ W.cell? ⟨p, 2, none⟩ = some (.pointer (some ⟨b, 0, none⟩)) ∧ W.cell? ⟨W1.heap.size, 0, none⟩ = some (.int .i64 ((r0 : Int) + 1)) ∧ W.cell? ⟨W1.heap.size, 1, none⟩ = some (.int .i64 c.length) ∧ W.cell? ⟨W1.heap.size, 2, none⟩ = some (.int .i64 (sum48 c)) := by
        have hr0 : W0.heap[W1.heap.size]? = some (.cells [.int .i64 ((r0 : Int) + 1), .int .i64 c.length, .int .i64 (sum48 c)].toArray 89) := (HB3'.out.block _ (by omega)).trans HR3.out
        have hrW := (HI.out.upd.block W1.heap.size (by omega) (by simp; omega)).trans hr0
        exact ⟨e1, e2, by rw [cell_of_heap hrW]; rfl, by rw [cell_of_heap hrW]; rfl, by rw [cell_of_heap hrW]; rfl⟩
      have HK5 := Lib.hid k5
      clear k5
      go_wp2_with fail
      refine HSy.out.mono ?_
      rintro e w4 ⟨rfl, ⟨m4, hm4, hD4⟩, hU4⟩
      have k5 := keep5 HK5.out hU4 (by omega) (by omega) (by omega) (by simp; omega) (by simp; exact fun e => hbp e.symm) (by simp; omega)
      have hU4s := hU4.size
      have HD4 := Lib.hid hD4
      have HU4 := Lib.hid hU4
      have HM4 := Lib.hid hm4
      have hm4' : m4 < w4.heap.size := hD4.map.lt
      clear hD4 hU4 HSy e1 e2 hm1
      have hpn : (0 : Int) ≤ ((r0 : Int) + 1) % 2 := by omega
      have hpm : ((r0 : Int) + 1) % 2 < 32 := by omega
      have hsm := sum48_lt c
      have HK4 := Lib.hid k5
      have HKd : Hid (w4.drew.cell? ⟨w.heap.size, 0, none⟩ = some (.pointer (some ⟨p, 0, none⟩)) ∧ w4.drew.cell? ⟨p, 2, none⟩ = some (.pointer (some ⟨b, 0, none⟩)) ∧ w4.drew.cell? ⟨W1.heap.size, 0, none⟩ = some (.int .i64 ((r0 : Int) + 1)) ∧ w4.drew.cell? ⟨W1.heap.size, 1, none⟩ = some (.int .i64 c.length) ∧ w4.drew.cell? ⟨W1.heap.size, 2, none⟩ = some (.int .i64 (sum48 c))) := k5
      clear k5
      go_upto_region 14 with fail
      go_cut [10] from 56 (fun s10 wx => s10 = .int .i64 0 ∧ IsDisk wx b (({ s1 with bm := m4, sy := [] } : Dk).put (((r0 : Int) + 1) % 2).toNat (rbytes (r0 + 1) c.length (sum48 c))) ∧ Upd w4.heap.size [b, m4] w4 wx)
      case first =>
        go_region_held3 (fun w' => w'.cell? ⟨w.heap.size, 0, none⟩ = some (.pointer (some ⟨p, 0, none⟩)) ∧ w'.cell? ⟨p, 2, none⟩ = some (.pointer (some ⟨b, 0, none⟩)) ∧ w'.cell? ⟨W1.heap.size, 0, none⟩ = some (.int .i64 ((r0 : Int) + 1)) ∧ w'.cell? ⟨W1.heap.size, 1, none⟩ = some (.int .i64 c.length) ∧ w'.cell? ⟨W1.heap.size, 2, none⟩ = some (.int .i64 (sum48 c)))
          (first | assumption | exact HKd.out)
          (first | (go_at_call 69; refine (rwritten_int w4.drew _ _ _ (r0 + 1) c.length (sum48 c) (by omega) rfl rfl (by omega) (by omega) (by omega)).mono ?_; rintro e w5 ⟨g5, c5, rfl, hSl5, hg5, hb5⟩; have hS5 := keep5 HKd.out (Upd.of_below hb5 []) (by show _ < w4.heap.size; omega) (by show _ < w4.heap.size; omega) (by show _ < w4.heap.size; omega) (by simp) (by simp) (by simp)) | (go_at_call 32; refine (write_ok b w5 { s1 with bm := m4, sy := [] } _ g5 0 28 c5 (rbytes (r0 + 1) c.length (sum48 c)) ((HD4.out.drew).keep (Upd.of_below hb5 []) (by show b < w4.heap.size; omega) hm4' (by simp) (by simp)) HS1.out.2.2.1 hpn hpm (by omega) (rbytes_length _ _ _) hSl5.adds (by have : w4.heap.size ≤ g5 := hg5; omega) HS1.out.2.1).mono ?_; rintro e w6 ⟨rfl, hD6, hU6⟩; have hS6 := keep5 hS5 hU6 (by have := hb5.size; simp at this; omega) (by have := hb5.size; simp at this; omega) (by have := hb5.size; simp at this; omega) (by simp; omega) (by simp; exact ⟨fun e => hbp e.symm, by omega⟩) (by simp; omega)))
        go_wp2_with fail
        go_meet
        exact ⟨rfl, hD6, ((Upd.refl w4.heap.size [b, m4] w4).drew.trans (Upd.of_below hb5 _)).trans (hU6.mono (by have := hb5.size; simpa using this) (by simp))⟩
      case rest =>
        obtain ⟨rfl, hD6, hU6⟩ := hcut
        obtain ⟨w6, rfl⟩ : ∃ x, x = wc := ⟨_, rfl⟩
        have k6 := keep5 HK4.out hU6 (by omega) (by omega) (by omega) (by simp; omega) (by simp; exact ⟨fun e => hbp e.symm, by omega⟩) (by simp; omega)
        obtain ⟨e1, e2, e3, e4, e5⟩ := k6
        have hU6s := hU6.size
        have HS6 := Lib.hid (sync_ok b w6 _ hD6 HS1.out.2.2.1 HS1.out.2.1)
        have HU6 := Lib.hid hU6
        clear hU6 hD6 hpn hpm
        go_wp2_with fail
        refine HS6.out.mono ?_
        rintro e w7 ⟨rfl, ⟨m7, hm7, hD7⟩, hU7⟩
        have k7 := keep5 ⟨e1, e2, e3, e4, e5⟩ hU7 (by omega) (by omega) (by omega) (by simp; omega) (by simp; exact fun e => hbp e.symm) (by simp; omega)
        obtain ⟨f1, f2, f3, f4, f5⟩ := k7
        have hU7s := hU7.size
        clear HS6 e1 e2 e3 e4 e5
        have HM7 := Lib.hid hm7
        have HMD : Hid (D < w6.heap.size) := Lib.hid (by have := heap_lt HK.out; omega)
        have hm1 := HS1.out.2.2.2.2.2
        have hT2 : Upd W.heap.size [b] W w7 := HU4.out.trans ((HU6.out.mono (by omega) (by simp; exact .inr HM4.out)).trans (hU7.mono (by omega) (by simp)))
        have hT1 : Upd W1.heap.size [b, s.bm] W1 w7 := (Upd.of_below HB1.out _).trans ((HI.out.upd.mono (by omega) (by simp; omega)).trans (hT2.mono (by omega) (by simp)))
        have hT0 : Upd w.heap.size [b, s.bm] w w7 := (Upd.of_below HBW.out _).trans (hT1.mono (by omega) (by simp))
        have hL7 : IsList w7 p b L ts := HL.out.keep hT0 (Nat.le_refl _) (by simp; exact ⟨fun e => hbp e.symm, fun e => hmp e.symm⟩) (by
          intro k hk cur e
          simp at hk
          rcases hk with hk | hk
          · subst hk
            rw [HD.out.heap] at e
            cases e
          · subst hk
            obtain ⟨es, clk, h1, _⟩ := HD.out.map.ex
            rw [h1] at e
            cases e)
        have g2 : w7.cell? ⟨w.heap.size + 1, 0, none⟩ = some (.int .i64 0) := by rw [hT1.cell (p := ⟨w.heap.size + 1, 0, none⟩) (by show w.heap.size + 1 < _; omega) (by simp; omega)]; exact HKE.out
        have g3 : w7.frozen? ⟨w.heap.size + 1, 0, none⟩ = false := by rw [hT1.frozen (p := ⟨w.heap.size + 1, 0, none⟩) (by show w.heap.size + 1 < _; omega) (by simp; omega)]; exact HKF.out
        have HT0 := Lib.hid hT0
        have HT2 := Lib.hid hT2
        have HL7 := Lib.hid hL7
        have HG2 := Lib.hid g2
        have HG3 := Lib.hid g3
        have HD7 := Lib.hid hD7
        have hSt : Hid (w7.drew.cell? ⟨w.heap.size, 0, none⟩ = some (.pointer (some ⟨p, 0, none⟩)) ∧ w7.drew.cell? ⟨W1.heap.size, 0, none⟩ = some (.int .i64 ((r0 : Int) + 1)) ∧ w7.drew.cell? ⟨W1.heap.size, 1, none⟩ = some (.int .i64 c.length) ∧ w7.drew.cell? ⟨W1.heap.size, 2, none⟩ = some (.int .i64 (sum48 c))) := ⟨f1, f3, f4, f5⟩
        have p5 := hL7.c5
        have p6 := hL7.c6
        have p7 := hL7.c7
        have p8 := hL7.c8
        have z5 := hL7.fr 5
        have z6 := hL7.fr 6
        have z7 := hL7.fr 7
        have z8 := hL7.fr 8
        have hhp : w.heap.size ≠ p := by omega
        have hRp : W1.heap.size ≠ p := by omega
        clear hU7 hD7 hT0 hT1 hT2 hL7 g2 g3 f1 f2 f3 f4 f5 hm1
        go_upto_region 20 with fail
        go_cut [] from 75 (fun wx => IsList wx p b { L with root := (r0 + 1, c.length, sum48 c), dirty := false } ts ∧ Upd w7.heap.size [p] w7 wx)
        case first =>
          go_region_held3 (fun w' => w'.cell? ⟨w.heap.size, 0, none⟩ = some (.pointer (some ⟨p, 0, none⟩)) ∧ w'.cell? ⟨W1.heap.size, 0, none⟩ = some (.int .i64 ((r0 : Int) + 1)) ∧ w'.cell? ⟨W1.heap.size, 1, none⟩ = some (.int .i64 c.length) ∧ w'.cell? ⟨W1.heap.size, 2, none⟩ = some (.int .i64 (sum48 c)))
            (repeat (first | assumption | exact hSt.out | refine kset ?_ hhp hRp _ _))
            (fail)
          all_goals
            go_wp2_with fail
            go_meet
            first
            | exact ⟨((((HL7.out.setRoot _ (r0 + 1) (by simp)).setSize c.length).setSum (sum48 c)).setDirty false).drew, (((((Upd.refl _ _ _).setCell _ (.inr (by simp)) _).setCell _ (.inr (by simp)) _).setCell _ (.inr (by simp)) _).setCell _ (.inr (by simp)) _).drew⟩
            | exact ⟨((((HL7.out.setDirty false).setRoot _ (r0 + 1) (by simp)).setSize c.length).setSum (sum48 c)).drew, (((((Upd.refl _ _ _).setCell _ (.inr (by simp)) _).setCell _ (.inr (by simp)) _).setCell _ (.inr (by simp)) _).setCell _ (.inr (by simp)) _).drew⟩
        case rest =>
          obtain ⟨hL8, hU8⟩ := hcut
          obtain ⟨w8, rfl⟩ : ∃ x, x = wc := ⟨_, rfl⟩
          have y2 : w8.cell? ⟨w.heap.size + 1, 0, none⟩ = some (.int .i64 0) := by rw [hU8.cell (p := ⟨w.heap.size + 1, 0, none⟩) (by show w.heap.size + 1 < _; omega) (by simp; omega)]; exact HG2.out
          have y3 : w8.frozen? ⟨w.heap.size + 1, 0, none⟩ = false := by rw [hU8.frozen (p := ⟨w.heap.size + 1, 0, none⟩) (by show w.heap.size + 1 < _; omega) (by simp; omega)]; exact HG3.out
          have HL8 := Lib.hid hL8
          have HU8 := Lib.hid hU8
          clear hL8 hU8 p5 p6 p7 p8 z5 z6 z7 z8 hhp hRp
          go_wp2_with fail
          have hKD : (w8.setCell ⟨w.heap.size + 1, 0, none⟩ (.int .i64 0)).heap[D]? = some (.deferred (some [])) := by
            have hDW := heap_lt HK.out
            rw [Below.heap_setCell _ _ _ _ (by show D ≠ w.heap.size + 1; omega), HU8.out.block D (by omega) (by simp; omega), HT2.out.block D (by omega) (by simp; omega)]
            exact HK.out
          refine ⟨by simp, .inl ⟨_, _, rfl, run_takeDeferred hKD, ?_⟩⟩
          have hUf : Upd w8.heap.size [w.heap.size + 1, D] w8 ((w8.setCell ⟨w.heap.size + 1, 0, none⟩ (.int .i64 0)).putObj D (.deferred none)) :=
            ((Upd.refl _ _ _).setCell _ (.inr (by simp)) _).putObjW D (.inr (by simp)) _ (by simp)
          have hDW := heap_lt HK.out
          have hT2s := HT2.out.size
          have hU8s := HU8.out.size
          have hcellf : ((w8.setCell ⟨w.heap.size + 1, 0, none⟩ (.int .i64 0)).putObj D (.deferred none)).cell? ⟨w.heap.size + 1, 0, none⟩ = some (.int .i64 0) := by
            have hg := (grownBy_putObj' (w8.setCell ⟨w.heap.size + 1, 0, none⟩ (.int .i64 0)) D (.deferred none)).block (w.heap.size + 1) (by simp; omega) (fun e => by cases e; omega)
            rw [World.cell?_of_block (w := w8.setCell ⟨w.heap.size + 1, 0, none⟩ (.int .i64 0)) hg]
            exact World.cell?_setCell_same' _ _ _ (by rw [y2]; rfl)
          generalize hwf : (w8.setCell ⟨w.heap.size + 1, 0, none⟩ (.int .i64 0)).putObj D (.deferred none) = wf at hUf hcellf ⊢
          have hblt' : b < w8.heap.size := by omega
          refine ⟨.int .i64 0, by simp [results, Tryd.results49, go_sem, hcellf], rfl, m7, ?_, ?_, ?_, ?_⟩
          · have := HM7.out; omega
          · have hD8 : IsDisk w8 b _ := HD7.out.keep HU8.out (by omega) HD7.out.map.lt (by simp; exact hbp) (by simp; have := HM7.out; show m7 ≠ p; omega)
            have hDf : IsDisk wf b _ := hD8.keep hUf (by omega) hD8.map.lt (by simp; omega) (by have h7 := HM7.out; have h8 := HMD.out; simp; show ¬ m7 = _ ∧ ¬ m7 = _; omega)
            obtain ⟨h1, h2, h3, h4, h5, h6⟩ := HS1.out
            have hi : (((r0 : Int) + 1) % 2).toNat = (r0 + 1) % 2 := by omega
            have e : ({ (({ s1 with bm := m4, sy := [] } : Dk).put (((r0 : Int) + 1) % 2).toNat (rbytes (r0 + 1) c.length (sum48 c))) with bm := m7, sy := [] } : Dk) = { s with bs := wroteBs s.bs (r0 + 1) c, bm := m7, sy := [] } := by
              simp only [Dk.put, h1, h2, h3, h4, h5, hi, wroteBs, pad, hd, hl]
            rw [e] at hDf
            exact hDf
          · refine HL8.out.keepO hUf (Nat.le_refl _) (by simp; omega) ?_
            intro k hk e
            have h1 := (HL.out.own.lt k e).2
            simp at hk
            omega
          · exact (HT0.out.mono (Nat.le_refl _) (by simp)).trans ((HU8.out.mono (by omega) (by simp)).trans (hUf.mono (by omega) (by simp; omega)))
    case stop =>
      rintro D c pre W _ _ h _
      exact h.elim
end Go.Proofs.YtgjjcbcmjbnfnaaDoor
