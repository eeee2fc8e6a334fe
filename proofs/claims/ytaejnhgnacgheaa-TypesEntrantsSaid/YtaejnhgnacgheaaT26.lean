/- changed rules: what holds between two statements of Bent (printed by gen-t26.py). -/
import Derived.Test.YtaejnhgnacgheaaT24
namespace Go.Proofs.Ytaejnhgnacgheaa
set_option linter.unusedVariables false
set_option linter.unusedSimpArgs false
open Go.RowKit

/-- Bent under way: the rules at block D, the result's block R; its lists in blocks of their own. -/
structure BtAt (w W : World) (R D : Nat) (d : DrawL) (vt vp vq vb : Value) : Prop where
  kp : Kp w W
  row : Row W D 30 (dcells d vt vp vq vb)
  res : Row W R 30 zero13
  ne : R ≠ D
  hR : w.heap.size ≤ R
  hD : w.heap.size ≤ D
  t : Sl W vt 63 2 d.tiers.length (d.tiers.flatMap tierE)
  p : Sl W vp 65 2 d.places.length (d.places.flatMap placeE)
  q : Sl W vq 67 3 d.quotas.length (d.quotas.flatMap quotaE)
  b : Sl W vb 3 1 d.barred.length (d.barred.flatMap numE)
  ht : ∀ g, vt.ownBlock = some g → w.heap.size ≤ g
  hp : ∀ g, vp.ownBlock = some g → w.heap.size ≤ g
  hq : ∀ g, vq.ownBlock = some g → w.heap.size ≤ g
  hb : ∀ g, vb.ownBlock = some g → w.heap.size ≤ g

section
variable {w W W' : World} {R D : Nat} {d : DrawL} {vt vp vq vb : Value}
/-- only blocks are added -/
theorem BtAt.far (h : BtAt w W R D d vt vp vq vb) (hu : Kp W W') : BtAt w W' R D d vt vp vq vb :=
  ⟨h.kp.trans hu, h.row.upd hu id, h.res.upd hu id, h.ne, h.hR, h.hD, h.t.far hu, h.p.far hu, h.q.far hu, h.b.far hu, h.ht, h.hp, h.hq, h.hb⟩
/-- a field that is no list has been stored -/
theorem BtAt.set (h : BtAt w W R D d vt vp vq vb) (i : Nat) (u : Value) {d' : DrawL} (hd : (dcells d vt vp vq vb).set i u = dcells d' vt vp vq vb) (ht : d'.tiers = d.tiers) (hp : d'.places = d.places) (hq : d'.quotas = d.quotas) (hb : d'.barred = d.barred) :
    BtAt w (W.setCell ⟨D, i, none⟩ u) R D d' vt vp vq vb := by
  have hu : Upd (· = D) W (W.setCell ⟨D, i, none⟩ u) := (Upd.refl (· = D) W).setCell (fun _ => rfl) u
  refine ⟨Upd.trans h.kp hu (fun k hk e => by have := h.hD; omega), hd ▸ h.row.set i u, h.res.upd hu h.ne, h.ne, h.hR, h.hD, ?_, ?_, ?_, ?_, h.ht, h.hp, h.hq, h.hb⟩
  · rw [ht]; exact h.t.upd hu (fun g hg e => h.t.ne_row h.row (by decide) (by rw [hg, e]))
  · rw [hp]; exact h.p.upd hu (fun g hg e => h.p.ne_row h.row (by decide) (by rw [hg, e]))
  · rw [hq]; exact h.q.upd hu (fun g hg e => h.q.ne_row h.row (by decide) (by rw [hg, e]))
  · rw [hb]; exact h.b.upd hu (fun g hg e => h.b.ne_row h.row (by decide) (by rw [hg, e]))
/-- elements have been appended to tiers, and the field is stored -/
theorem BtAt.addT (h : BtAt w W R D d vt vp vq vb) {W1 W2 : World} {v : Value} {xs : List (Int × Int)} {n : Nat} {ys : List Value} (h0 : Kp W W1) (hn : n = d.tiers.length + xs.length) (hy : ys = d.tiers.flatMap tierE ++ xs.flatMap tierE) (ha : Appended W1 vt 63 2 n ys v W2) :
    Row W2 D 30 (dcells d vt vp vq vb) ∧ BtAt w (W2.setCell ⟨D, 6, none⟩ v) R D { d with tiers := d.tiers ++ xs } v vp vq vb := by
  subst hn hy
  have h1 := h.far h0
  have hu := ha.upd
  have n2 : vt.ownBlock ≠ some D := h1.t.ne_row h1.row (by decide)
  have n3 : vt.ownBlock ≠ some R := h1.t.ne_row h1.res (by decide)
  have r2 := h1.row.upd hu n2
  refine ⟨r2, ?_⟩
  have hs : Upd (· = D) W2 (W2.setCell ⟨D, 6, none⟩ v) := (Upd.refl (· = D) W2).setCell (fun _ => rfl) v
  have res2 := h1.res.upd hu n3
  have p2 := h1.p.upd hu (fun g hg e => (h1.p.ne_sl h1.t (by decide)) g hg e)
  have q2 := h1.q.upd hu (fun g hg e => (h1.q.ne_sl h1.t (by decide)) g hg e)
  have b2 := h1.b.upd hu (fun g hg e => (h1.b.ne_sl h1.t (by decide)) g hg e)
  refine ⟨Upd.trans (Upd.trans h1.kp hu (fun g hg e => by have := h.ht g e; omega)) hs (fun k hk e => by have := h.hD; omega), r2.set 6 v, res2.upd hs h.ne, h.ne, h.hR, h.hD, ?_, ?_, ?_, ?_, ?_, h.hp, h.hq, h.hb⟩
  · have s2 := ha.sl.upd hs (fun g hg e => ha.sl.ne_row r2 (by decide) (by rw [hg, e]))
    show Sl _ v _ 2 (d.tiers ++ xs).length ((d.tiers ++ xs).flatMap tierE)
    rw [List.length_append, List.flatMap_append]
    exact s2
  · exact p2.upd hs (fun g hg e => p2.ne_row r2 (by decide) (by rw [hg, e]))
  · exact q2.upd hs (fun g hg e => q2.ne_row r2 (by decide) (by rw [hg, e]))
  · exact b2.upd hs (fun g hg e => b2.ne_row r2 (by decide) (by rw [hg, e]))
  · intro g hg
    rcases ha.at_ with e | e
    · exact h.ht g (by rw [← e.1]; exact hg)
    · rw [e.1] at hg
      cases hg
      exact h1.kp.size
/-- elements have been appended to places, and the field is stored -/
theorem BtAt.addP (h : BtAt w W R D d vt vp vq vb) {W1 W2 : World} {v : Value} {xs : List (List UInt8 × Int)} {n : Nat} {ys : List Value} (h0 : Kp W W1) (hn : n = d.places.length + xs.length) (hy : ys = d.places.flatMap placeE ++ xs.flatMap placeE) (ha : Appended W1 vp 65 2 n ys v W2) :
    Row W2 D 30 (dcells d vt vp vq vb) ∧ BtAt w (W2.setCell ⟨D, 8, none⟩ v) R D { d with places := d.places ++ xs } vt v vq vb := by
  subst hn hy
  have h1 := h.far h0
  have hu := ha.upd
  have n2 : vp.ownBlock ≠ some D := h1.p.ne_row h1.row (by decide)
  have n3 : vp.ownBlock ≠ some R := h1.p.ne_row h1.res (by decide)
  have r2 := h1.row.upd hu n2
  refine ⟨r2, ?_⟩
  have hs : Upd (· = D) W2 (W2.setCell ⟨D, 8, none⟩ v) := (Upd.refl (· = D) W2).setCell (fun _ => rfl) v
  have res2 := h1.res.upd hu n3
  have t2 := h1.t.upd hu (fun g hg e => (h1.t.ne_sl h1.p (by decide)) g hg e)
  have q2 := h1.q.upd hu (fun g hg e => (h1.q.ne_sl h1.p (by decide)) g hg e)
  have b2 := h1.b.upd hu (fun g hg e => (h1.b.ne_sl h1.p (by decide)) g hg e)
  refine ⟨Upd.trans (Upd.trans h1.kp hu (fun g hg e => by have := h.hp g e; omega)) hs (fun k hk e => by have := h.hD; omega), r2.set 8 v, res2.upd hs h.ne, h.ne, h.hR, h.hD, ?_, ?_, ?_, ?_, h.ht, ?_, h.hq, h.hb⟩
  · exact t2.upd hs (fun g hg e => t2.ne_row r2 (by decide) (by rw [hg, e]))
  · have s2 := ha.sl.upd hs (fun g hg e => ha.sl.ne_row r2 (by decide) (by rw [hg, e]))
    show Sl _ v _ 2 (d.places ++ xs).length ((d.places ++ xs).flatMap placeE)
    rw [List.length_append, List.flatMap_append]
    exact s2
  · exact q2.upd hs (fun g hg e => q2.ne_row r2 (by decide) (by rw [hg, e]))
  · exact b2.upd hs (fun g hg e => b2.ne_row r2 (by decide) (by rw [hg, e]))
  · intro g hg
    rcases ha.at_ with e | e
    · exact h.hp g (by rw [← e.1]; exact hg)
    · rw [e.1] at hg
      cases hg
      exact h1.kp.size
/-- elements have been appended to quotas, and the field is stored -/
theorem BtAt.addQ (h : BtAt w W R D d vt vp vq vb) {W1 W2 : World} {v : Value} {xs : List (List UInt8 × Int × Int)} {n : Nat} {ys : List Value} (h0 : Kp W W1) (hn : n = d.quotas.length + xs.length) (hy : ys = d.quotas.flatMap quotaE ++ xs.flatMap quotaE) (ha : Appended W1 vq 67 3 n ys v W2) :
    Row W2 D 30 (dcells d vt vp vq vb) ∧ BtAt w (W2.setCell ⟨D, 11, none⟩ v) R D { d with quotas := d.quotas ++ xs } vt vp v vb := by
  subst hn hy
  have h1 := h.far h0
  have hu := ha.upd
  have n2 : vq.ownBlock ≠ some D := h1.q.ne_row h1.row (by decide)
  have n3 : vq.ownBlock ≠ some R := h1.q.ne_row h1.res (by decide)
  have r2 := h1.row.upd hu n2
  refine ⟨r2, ?_⟩
  have hs : Upd (· = D) W2 (W2.setCell ⟨D, 11, none⟩ v) := (Upd.refl (· = D) W2).setCell (fun _ => rfl) v
  have res2 := h1.res.upd hu n3
  have t2 := h1.t.upd hu (fun g hg e => (h1.t.ne_sl h1.q (by decide)) g hg e)
  have p2 := h1.p.upd hu (fun g hg e => (h1.p.ne_sl h1.q (by decide)) g hg e)
  have b2 := h1.b.upd hu (fun g hg e => (h1.b.ne_sl h1.q (by decide)) g hg e)
  refine ⟨Upd.trans (Upd.trans h1.kp hu (fun g hg e => by have := h.hq g e; omega)) hs (fun k hk e => by have := h.hD; omega), r2.set 11 v, res2.upd hs h.ne, h.ne, h.hR, h.hD, ?_, ?_, ?_, ?_, h.ht, h.hp, ?_, h.hb⟩
  · exact t2.upd hs (fun g hg e => t2.ne_row r2 (by decide) (by rw [hg, e]))
  · exact p2.upd hs (fun g hg e => p2.ne_row r2 (by decide) (by rw [hg, e]))
  · have s2 := ha.sl.upd hs (fun g hg e => ha.sl.ne_row r2 (by decide) (by rw [hg, e]))
    show Sl _ v _ 3 (d.quotas ++ xs).length ((d.quotas ++ xs).flatMap quotaE)
    rw [List.length_append, List.flatMap_append]
    exact s2
  · exact b2.upd hs (fun g hg e => b2.ne_row r2 (by decide) (by rw [hg, e]))
  · intro g hg
    rcases ha.at_ with e | e
    · exact h.hq g (by rw [← e.1]; exact hg)
    · rw [e.1] at hg
      cases hg
      exact h1.kp.size
/-- elements have been appended to barred, and the field is stored -/
theorem BtAt.addB (h : BtAt w W R D d vt vp vq vb) {W1 W2 : World} {v : Value} {xs : List (Int)} {n : Nat} {ys : List Value} (h0 : Kp W W1) (hn : n = d.barred.length + xs.length) (hy : ys = d.barred.flatMap numE ++ xs.flatMap numE) (ha : Appended W1 vb 3 1 n ys v W2) :
    Row W2 D 30 (dcells d vt vp vq vb) ∧ BtAt w (W2.setCell ⟨D, 12, none⟩ v) R D { d with barred := d.barred ++ xs } vt vp vq v := by
  subst hn hy
  have h1 := h.far h0
  have hu := ha.upd
  have n2 : vb.ownBlock ≠ some D := h1.b.ne_row h1.row (by decide)
  have n3 : vb.ownBlock ≠ some R := h1.b.ne_row h1.res (by decide)
  have r2 := h1.row.upd hu n2
  refine ⟨r2, ?_⟩
  have hs : Upd (· = D) W2 (W2.setCell ⟨D, 12, none⟩ v) := (Upd.refl (· = D) W2).setCell (fun _ => rfl) v
  have res2 := h1.res.upd hu n3
  have t2 := h1.t.upd hu (fun g hg e => (h1.t.ne_sl h1.b (by decide)) g hg e)
  have p2 := h1.p.upd hu (fun g hg e => (h1.p.ne_sl h1.b (by decide)) g hg e)
  have q2 := h1.q.upd hu (fun g hg e => (h1.q.ne_sl h1.b (by decide)) g hg e)
  refine ⟨Upd.trans (Upd.trans h1.kp hu (fun g hg e => by have := h.hb g e; omega)) hs (fun k hk e => by have := h.hD; omega), r2.set 12 v, res2.upd hs h.ne, h.ne, h.hR, h.hD, ?_, ?_, ?_, ?_, h.ht, h.hp, h.hq, ?_⟩
  · exact t2.upd hs (fun g hg e => t2.ne_row r2 (by decide) (by rw [hg, e]))
  · exact p2.upd hs (fun g hg e => p2.ne_row r2 (by decide) (by rw [hg, e]))
  · exact q2.upd hs (fun g hg e => q2.ne_row r2 (by decide) (by rw [hg, e]))
  · have s2 := ha.sl.upd hs (fun g hg e => ha.sl.ne_row r2 (by decide) (by rw [hg, e]))
    show Sl _ v _ 1 (d.barred ++ xs).length ((d.barred ++ xs).flatMap numE)
    rw [List.length_append, List.flatMap_append]
    exact s2
  · intro g hg
    rcases ha.at_ with e | e
    · exact h.hb g (by rw [← e.1]; exact hg)
    · rw [e.1] at hg
      cases hg
      exact h1.kp.size
/-- the rules lie in D; the lists are not the call's own yet -/
structure BtPre (w W : World) (R D : Nat) (d : DrawL) (vt vp vq vb : Value) : Prop where
  kp : Kp w W
  row : Row W D 30 (dcells d vt vp vq vb)
  res : Row W R 30 zero13
theorem BtPre.far (h : BtPre w W R D d vt vp vq vb) (hu : Kp W W') : BtPre w W' R D d vt vp vq vb := ⟨h.kp.trans hu, h.row.upd hu id, h.res.upd hu id⟩
/-- what Bent has, under way -/
def BtI (w W : World) (R D N : Nat) : Prop := ∃ d vt vp vq vb, BtAt w W R D d vt vp vq vb ∧ DrawOk d ∧ d.tiers.length ≤ N ∧ d.places.length ≤ N ∧ d.quotas.length ≤ N ∧ d.barred.length ≤ N
/-- rules whose lists lie in rows of their own types -/
structure DrawSl (w : World) (d : DrawL) (vt vp vq vb : Value) : Prop where
  t : Sl w vt 63 2 d.tiers.length (d.tiers.flatMap tierE)
  p : Sl w vp 65 2 d.places.length (d.places.flatMap placeE)
  q : Sl w vq 67 3 d.quotas.length (d.quotas.flatMap quotaE)
  b : Sl w vb 3 1 d.barred.length (d.barred.flatMap numE)
  ok : DrawOk d
theorem DrawSl.in_ (h : DrawSl w d vt vp vq vb) : DrawIn w d vt vp vq vb := ⟨Sl.lst (fun _ => rfl) h.t, Sl.lst (fun _ => rfl) h.p, Sl.lst (fun _ => rfl) h.q, Sl.lst (fun _ => rfl) h.b, h.ok⟩
theorem DrawSl.kp (h : DrawSl w d vt vp vq vb) (hu : Kp w W) : DrawSl W d vt vp vq vb := ⟨h.t.far hu, h.p.far hu, h.q.far hu, h.b.far hu, h.ok⟩
/-- a row of another type has been written -/
theorem DrawSl.off {g : Nat} {e : TypeId} {cs : List Value} (h : DrawSl w d vt vp vq vb) (hr : Row w g e cs) (h1 : 63 ≠ e) (h2 : 65 ≠ e) (h3 : 67 ≠ e) (h4 : 3 ≠ e) (hu : Upd (· = g) w W) : DrawSl W d vt vp vq vb :=
  ⟨h.t.upd hu (fun k hk ex => h.t.ne_row hr h1 (by rw [hk, ex])), h.p.upd hu (fun k hk ex => h.p.ne_row hr h2 (by rw [hk, ex])), h.q.upd hu (fun k hk ex => h.q.ne_row hr h3 (by rw [hk, ex])), h.b.upd hu (fun k hk ex => h.b.ne_row hr h4 (by rw [hk, ex])), h.ok⟩
/-- what Bent leaves -/
def BentP (N : Nat) (w : World) (e : Ending) (w' : World) : Prop :=
  ∃ (d : DrawL) (vt vp vq vb : Value), e = .returned (dval d vt vp vq vb) ∧ DrawSl w' d vt vp vq vb ∧ (d.tiers.length ≤ N ∧ d.places.length ≤ N ∧ d.quotas.length ≤ N ∧ d.barred.length ≤ N) ∧ Kp w w'
theorem bt_done {N : Nat} (h : BtAt w W R D d vt vp vq vb) (hok : DrawOk d ∧ d.tiers.length ≤ N ∧ d.places.length ≤ N ∧ d.quotas.length ≤ N ∧ d.barred.length ≤ N) (hu : Upd (· = R) W W') : BentP N w (.returned (dval d vt vp vq vb)) W' := by
  refine ⟨d, vt, vp, vq, vb, rfl, ⟨?_, ?_, ?_, ?_, hok.1⟩, hok.2, Upd.trans h.kp hu (fun k hk e => by have := h.hR; omega)⟩
  · exact h.t.upd hu (fun g hg e => h.t.ne_row h.res (by decide) (by rw [hg, e]))
  · exact h.p.upd hu (fun g hg e => h.p.ne_row h.res (by decide) (by rw [hg, e]))
  · exact h.q.upd hu (fun g hg e => h.q.ne_row h.res (by decide) (by rw [hg, e]))
  · exact h.b.upd hu (fun g hg e => h.b.ne_row h.res (by decide) (by rw [hg, e]))
end
end Go.Proofs.Ytaejnhgnacgheaa
