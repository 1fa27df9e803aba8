/- Lists that work on disks that are up: what each call on them does; no statement of the seat is proved here. -/
import Derived.Test.YtgjjcbcmjbnfnaaDoorImage
import Derived.Test.YtgjjcbcmjbnfnaaDoorKept
namespace Go.Proofs.YtgjjcbcmjbnfnaaDoor
open Go.RowKit

/-- The state of a list: the number of the last entry, the texts that are kept, and the mark. -/
structure St where
  last : Nat
  texts : List ByteArray
  mark : Nat

/-- A state within its limits. -/
structure St.Ok (x : St) (n : Nat) : Prop where
  len : x.texts.length ≤ 40
  tl : x.texts.length ≤ x.last
  s24 : ∀ t ∈ x.texts, t.size ≤ 24
  mkl : x.mark ≤ x.last
  last : x.last ≤ n

/-- A disk that is up and not armed, all of which is synced, and which holds a state. -/
structure GD (w : World) (b : Nat) (s : Dk) (n : Nat) (m : Rt) (x : St) : Prop where
  disk : IsDisk w b s
  left : s.left = 0
  down : s.down = false
  sy : s.sy = []
  img : Img s.bs m x.last x.mark x.texts
  ok : x.Ok n
  rt : m.1 ≤ n
  turn : 0 ≤ s.turn ∧ s.turn ≤ n
  opened : 0 ≤ s.opened ∧ s.opened ≤ n
  big : n < 1000000000

def Ls.st (L : Ls) (ts : List ByteArray) : St := ⟨L.last, ts, L.mark⟩

/-- A list that works: its disk holds the state x; its own state is another one if something has changed. -/
structure G (w : World) (b p : Nat) (s : Dk) (L : Ls) (ts : List ByteArray) (n : Nat) (x : St) : Prop where
  gd : GD w b s n L.root x
  list : IsList w p b L ts
  works : L.works s = true
  ok : (L.st ts).Ok n
  clean : L.dirty = false → x = L.st ts

section
variable {w w' : World} {b p : Nat} {s : Dk} {L : Ls} {ts : List ByteArray} {n : Nat} {m : Rt} {x : St}

theorem GD.keep {B : Nat} {S : List Nat} (h : GD w b s n m x) (hU : Upd B S w w') (hb : b < B) (hm : s.bm < B) (h1 : b ∉ S) (h2 : s.bm ∉ S) : GD w' b s n m x :=
  { h with disk := h.disk.keep hU hb hm h1 h2 }
theorem St.Ok.more {n' : Nat} (h : x.Ok n) (hn : n ≤ n') : x.Ok n' := { h with last := Nat.le_trans h.last hn }
theorem GD.more {n' : Nat} (h : GD w b s n m x) (hn : n ≤ n') (hb : n' < 1000000000) : GD w b s n' m x :=
  { h with ok := h.ok.more hn, rt := Nat.le_trans h.rt hn, turn := ⟨h.turn.1, by have := h.turn.2; omega⟩, opened := ⟨h.opened.1, by have := h.opened.2; omega⟩, big := hb }
theorem G.more {n' : Nat} (h : G w b p s L ts n x) (hn : n ≤ n') (hb : n' < 1000000000) : G w b p s L ts n' x :=
  { h with gd := h.gd.more hn hb, ok := h.ok.more hn }

theorem list_disk_ne (hL : IsList w p b L ts) (hD : IsDisk w b s) : p ≠ b ∧ p ≠ s.bm := by
  constructor
  · intro e
    have h1 := hD.heap
    rw [← e, hL.heap] at h1
    have h2 := congrArg (fun o => match o with | some (Obj.cells _ t _) => t | _ => 0) h1
    simp at h2
  · intro e
    obtain ⟨es, clk, h1, _⟩ := hD.map.ex
    rw [← e, hL.heap] at h1
    cases h1

/-- The block of a list's texts is neither the disk nor its map. -/
theorem row_disk_ne (hL : IsList w p b L ts) (hD : IsDisk w b s) {g : Nat} (hg : L.texts.ownBlock = some g) : g ≠ b ∧ g ≠ s.bm ∧ g ≠ p ∧ g < w.heap.size := by
  obtain ⟨h1, cur, h2⟩ := hL.row_ne hg
  refine ⟨?_, ?_, h1, heap_lt h2⟩
  · intro e
    have h3 := hD.heap
    rw [← e, h2] at h3
    have h4 := congrArg (fun o => match o with | some (Obj.cells _ t _) => t | _ => 0) h3
    simp at h4
  · intro e
    obtain ⟨es, clk, h3, _⟩ := hD.map.ex
    rw [← e, h2] at h3
    cases h3

theorem G.keep {B : Nat} {S : List Nat} (h : G w b p s L ts n x) (hU : Upd B S w w') (hB : w.heap.size ≤ B) (h1 : b ∉ S) (h2 : s.bm ∉ S) (h3 : p ∉ S) (h4 : ∀ g ∈ S, L.texts.ownBlock ≠ some g) : G w' b p s L ts n x :=
  { h with gd := h.gd.keep hU (Nat.lt_of_lt_of_le h.gd.disk.lt hB) (Nat.lt_of_lt_of_le h.gd.disk.map.lt hB) h1 h2, list := h.list.keepO hU hB h3 h4 }

theorem G.drewN (h : G w b p s L ts n x) (k : Nat) : G (w.drewN k) b p s L ts n x :=
  h.keep (B := w.heap.size) (S := []) ⟨rfl, rfl, rfl, Nat.le_refl _, fun _ _ _ => rfl⟩ (Nat.le_refl _) (by simp) (by simp) (by simp) (by simp)
theorem Upd.drewN' (B : Nat) (S : List Nat) (w : World) (k : Nat) : Upd B S w (w.drewN k) := ⟨rfl, rfl, rfl, Nat.le_refl _, fun _ _ _ => rfl⟩
theorem IsDisk.drewN (h : IsDisk w b s) (k : Nat) : IsDisk (w.drewN k) b s := h.keep (B := w.heap.size) (Upd.drewN' _ [] w k) h.lt h.map.lt (by simp) (by simp)

/-- Adding an entry. -/
theorem addK_len (ts : List ByteArray) (t : ByteArray) (h : ts.length ≤ 40) : (addK ts t).length ≤ 40 ∧ (addK ts t).length ≤ ts.length + 1 := by
  unfold addK
  split
  · rename_i h1; simp at h1 ⊢; omega
  · rename_i h1; simp at h1 ⊢; omega
theorem addK_24 (ts : List ByteArray) (t : ByteArray) (h : ∀ u ∈ ts, u.size ≤ 24) (ht : t.size ≤ 24) : ∀ u ∈ addK ts t, u.size ≤ 24 := by
  intro u hu
  have : u ∈ ts ++ [t] := by
    unfold addK at hu
    split at hu
    · exact List.mem_of_mem_drop hu
    · exact hu
  simp at this
  rcases this with h1 | rfl
  · exact h u h1
  · exact ht

def St.add (x : St) (t : ByteArray) : St := ⟨x.last + 1, addK x.texts t, x.mark⟩

theorem G.add (h : G w b p s L ts n x) (t : ByteArray) (ht : t.size ≤ 24) (hn : n + 1 < 1000000000) :
    Calls Tryd.prog 12 #[.pointer (some ⟨p, 0, none⟩), .string t] w fun e w' => e = .returned (.tuple #[.int .i64 (L.last + 1), .int .i64 0]) ∧ ∃ v,
      G w' b p s { L with dirty := true, last := L.last + 1, texts := v } (addK ts t) (n + 1) x ∧ (∀ g, v.ownBlock = some g → L.texts.ownBlock = some g ∨ w.heap.size ≤ g) ∧ Upd w.heap.size (p :: L.texts.ownBlock.toList) w w' := by
  have hb := h.gd.big
  have hl := h.ok.last
  refine (add_any p b w L ts s t h.list h.gd.disk h.works ht h.ok.len (by have : L.last ≤ n := hl; omega)).mono fun e w' ⟨he, v, h1, h2, h3⟩ => ⟨he, v, ?_, h2, h3⟩
  have hne := list_disk_ne h.list h.gd.disk
  have hS : ∀ k, k ∈ p :: L.texts.ownBlock.toList → k ≠ b ∧ k ≠ s.bm := by
    intro k hk
    rcases List.mem_cons.1 hk with rfl | hk
    · exact hne
    · have := row_disk_ne h.list h.gd.disk (by simpa using hk)
      exact ⟨this.1, this.2.1⟩
  refine ⟨(h.gd.keep h3 h.gd.disk.lt h.gd.disk.map.lt (fun hk => (hS _ hk).1 rfl) (fun hk => (hS _ hk).2 rfl)).more (by omega) hn, h1, h.works, ?_, fun hd => by cases hd⟩
  have hk := addK_len ts t h.ok.len
  have htl : ts.length ≤ L.last := h.ok.tl
  have hmk : L.mark ≤ L.last := h.ok.mkl
  exact ⟨hk.1, by show (addK ts t).length ≤ L.last + 1; omega, addK_24 ts t h.ok.s24 ht, by show L.mark ≤ L.last + 1; omega, by show L.last + 1 ≤ n + 1; have : L.last ≤ n := hl; omega⟩

theorem G.addLong (h : G w b p s L ts n x) (t : ByteArray) (ht : 24 < t.size) :
    Calls Tryd.prog 12 #[.pointer (some ⟨p, 0, none⟩), .string t] w fun e w' => e = .returned (.tuple #[.int .i64 0, .int .i64 1]) ∧ ∃ n, w' = w.drewN n := add_long p b w L ts s t h.list h.gd.disk h.works ht

theorem G.mark (h : G w b p s L ts n x) (k : Nat) (hk : k ≤ L.last) :
    Calls Tryd.prog 44 #[.pointer (some ⟨p, 0, none⟩), .int .i64 k] w fun e w' => e = .returned (.int .i64 0) ∧ G w' b p s { L with dirty := true, mark := k } ts n x ∧ Upd w.heap.size [p] w w' := by
  refine (mark_any p b w L ts s k h.list h.gd.disk h.works hk).mono fun e w' ⟨he, h1, h2⟩ => ⟨he, ?_, h2⟩
  have hne := list_disk_ne h.list h.gd.disk
  exact ⟨h.gd.keep h2 h.gd.disk.lt h.gd.disk.map.lt (by simp; exact fun e => hne.1 e.symm) (by simp; exact fun e => hne.2 e.symm), h1, h.works, ⟨h.ok.len, h.ok.tl, h.ok.s24, hk, h.ok.last⟩, fun hd => by cases hd⟩

theorem G.sync (h : G w b p s L ts n x) (hn : n + 1 < 1000000000) :
    Calls Tryd.prog 24 #[.pointer (some ⟨p, 0, none⟩)] w fun e w' => e = .returned (.int .i64 0) ∧ ∃ bs bm r, (bm = s.bm ∨ w.heap.size ≤ bm) ∧
      G w' b p { s with bs := bs, bm := bm } { L with root := r, dirty := false } ts (n + 1) (L.st ts) ∧ Upd w.heap.size [p, b, s.bm] w w' := by
  cases hd : L.dirty with
  | false =>
    refine (lsync_clean p b w L ts s h.list h.gd.disk h.works hd).mono fun e w' ⟨he, k, hw⟩ => ⟨he, s.bs, s.bm, L.root, .inl rfl, ?_, ?_⟩
    · rw [hw]
      have h2 := (h.drewN k).more (Nat.le_add_right n 1) hn
      rw [h.clean hd] at h2
      have e1 : ({ L with root := L.root, dirty := false } : Ls) = L := by cases L; simp at hd; simp [hd]
      rw [e1]
      exact h2
    · rw [hw]; exact Upd.drewN' _ _ _ _
  | true =>
    have hb := h.gd.big
    have hrt := h.gd.rt
    have hl : L.last ≤ n := h.ok.last
    have hmk : L.mark ≤ L.last := h.ok.mkl
    refine (lsync_any p b w L ts s h.list h.gd.disk h.works hd h.gd.down h.gd.left (by omega) (by omega) (by omega) h.ok.len h.ok.s24).mono fun e w' ⟨he, bm, h1, h2, h3, h4⟩ => ⟨he, wroteBs s.bs (L.root.1 + 1) (cbytes L.last L.mark ts), bm, (L.root.1 + 1, (cbytes L.last L.mark ts).length, sum48 (cbytes L.last L.mark ts)), .inr h1, ?_, h4⟩
    have hbr : L.broken = false := by
      have := h.works
      simp [Ls.works] at this
      exact this.1.1
    have e1 : ({ L with root := (L.root.1 + 1, (cbytes L.last L.mark ts).length, sum48 (cbytes L.last L.mark ts)), dirty := false, broken := false } : Ls) = { L with root := (L.root.1 + 1, (cbytes L.last L.mark ts).length, sum48 (cbytes L.last L.mark ts)), dirty := false } := by
      cases L; simp at hbr; simp [hbr]
    rw [e1] at h3
    have hsy : s.sy = [] := h.gd.sy
    rw [← hsy] at h2
    exact ⟨⟨h2, h.gd.left, h.gd.down, h.gd.sy, h.gd.img.wrote (by omega) _ _ _ h.ok.len h.ok.s24, h.ok.more (by omega), by show L.root.1 + 1 ≤ n + 1; omega, ⟨h.gd.turn.1, by have := h.gd.turn.2; show s.turn ≤ _; omega⟩, ⟨h.gd.opened.1, by have := h.gd.opened.2; show s.opened ≤ _; omega⟩, hn⟩,
      h3, h.works, h.ok.more (by omega), fun _ => rfl⟩

/-- A list that is closed or broken. -/
theorem lsync_refused (hL : IsList w p b L ts) (hD : IsDisk w b s) (hw : L.works s = false) :
    Calls Tryd.prog 24 #[.pointer (some ⟨p, 0, none⟩)] w fun e w' => e = .returned (.int .i64 6) ∧ ∃ n, w' = w.drewN n := lsync_closed p b w L ts s hL hD hw

theorem GlobErr.upd {B : Nat} {S : List Nat} (h : GlobErr w) (hU : Upd B S w w') (hB : 0 < B) (h0 : 0 ∉ S) : GlobErr w' := by
  obtain ⟨t, v, hc⟩ := h
  exact ⟨t, v, (hU.cell (p := ⟨0, 0, none⟩) hB h0).trans hc⟩
theorem GlobErr.pos (h : GlobErr w) : 0 < w.heap.size := by
  obtain ⟨t, v, hc⟩ := h
  exact World.block_lt_of_cell? w _ hc

/-- Opening a disk. -/
theorem GD.open (h : GD w b s n m x) (hn : n + 1 < 1000000000) (hG : GlobErr w) :
    Calls Tryd.prog 16 #[.pointer (some ⟨b, 0, none⟩)] w fun e w' => ∃ p bm v, e = .returned (.tuple #[.pointer (some ⟨p, 0, none⟩), .int .i64 0]) ∧ w.heap.size ≤ p ∧ w.heap.size ≤ bm ∧
      G w' b p { s with opened := s.opened + 1, bm := bm } { broken := false, turn := s.turn, opened := s.opened + 1, root := m, dirty := false, last := x.last, mark := x.mark, texts := v } x.texts (n + 1) x ∧
      (∀ g, v.ownBlock = some g → w.heap.size ≤ g) ∧ Upd w.heap.size [b] w w' := by
  obtain ⟨rs, hrs, hN⟩ := h.img.newest (s := s)
  have hb := h.big
  have hol := h.opened
  have hlast := h.ok.last
  have hmk := h.ok.mkl
  refine (open_any b w s h.disk h.down (by rw [h.left]; omega) (by rw [h.left]; omega) hol.1 (by omega) rs hrs m x.last x.mark x.texts hN (by omega) (by omega) h.ok.len h.ok.s24 hG).mono fun e w' ⟨_, h2, h3⟩ => ?_
  obtain ⟨p, bm, v, he, hp, hbm, hD, hL, hown⟩ := h2 (by rw [h.left]; omega)
  have hact : s.act = s := by simp [Dk.act, h.left]
  rw [hact] at hD
  have hsy : s.sy = [] := h.sy
  rw [← hsy] at hD
  refine ⟨p, bm, v, he, hp, hbm, ⟨⟨hD, h.left, h.down, h.sy, h.img, h.ok.more (by omega), Nat.le_trans h.rt (by omega), ⟨h.turn.1, by have := h.turn.2; show s.turn ≤ _; omega⟩, ⟨by show 0 ≤ s.opened + 1; omega, by show s.opened + 1 ≤ _; omega⟩, hn⟩, hL, by simp [Ls.works], h.ok.more (by omega), fun _ => rfl⟩, ?_, h3⟩
  intro g hg
  exact (hown.lt g hg).1
end
end Go.Proofs.YtgjjcbcmjbnfnaaDoor
