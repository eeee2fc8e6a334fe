/- the maker of rules: what holds between two statements of Draw. -/
import Derived.Test.YtaejnhgnacgheaaT19
namespace Go.Proofs.Ytaejnhgnacgheaa
set_option linter.unusedVariables false
set_option linter.unusedSimpArgs false
open Go.RowKit

/-- Draw under way: the numbers at M, the rules at block D, the result's block R; its lists in blocks of their own. -/
structure MkAt (w W : World) (R M D : Nat) (vl : Value) (k : Nat) (d : DrawL) (vt vp vq vb : Value) : Prop where
  kp : Kp w W
  num : Row W M 72 [vl, .int .i64 k]
  row : Row W D 30 (dcells d vt vp vq vb)
  res : Row W R 30 zero13
  ne : R ≠ D
  hR : w.heap.size ≤ R
  hM : w.heap.size ≤ M
  hD : w.heap.size ≤ D
  t : Sl W vt 63 2 d.tiers.length (d.tiers.flatMap tierE)
  p : Sl W vp 65 2 d.places.length (d.places.flatMap placeE)
  q : Sl W vq 67 3 d.quotas.length (d.quotas.flatMap quotaE)
  b : Sl W vb 3 1 d.barred.length (d.barred.flatMap numE)
  ht : ∀ g, vt.ownBlock = some g → w.heap.size ≤ g
  hp : ∀ g, vp.ownBlock = some g → w.heap.size ≤ g
  hq : ∀ g, vq.ownBlock = some g → w.heap.size ≤ g
  hb : ∀ g, vb.ownBlock = some g → w.heap.size ≤ g

section
variable {w W W' : World} {R M D : Nat} {vl : Value} {k : Nat} {d : DrawL} {vt vp vq vb : Value}
theorem Sl.ne_row {v : Value} {e e' : TypeId} {size n : Nat} {xs cs : List Value} {g : Nat} (h : Sl W v e size n xs) (hr : Row W g e' cs) (hne : e ≠ e') : v.ownBlock ≠ some g := fun e1 => by
  obtain ⟨cs', hr'⟩ := h.row e1
  exact hr'.ne_ hr hne rfl
theorem Sl.ne_sl {v v' : Value} {e e' : TypeId} {size n size' n' : Nat} {xs xs' : List Value} (h : Sl W v e size n xs) (h' : Sl W v' e' size' n' xs') (hne : e ≠ e') : ∀ g, v.ownBlock = some g → v'.ownBlock ≠ some g := fun g e1 e2 => by
  obtain ⟨cs, hr⟩ := h.row e1
  obtain ⟨cs', hr'⟩ := h'.row e2
  exact hr.ne_ hr' hne rfl
/-- only blocks are added -/
theorem MkAt.far (h : MkAt w W R M D vl k d vt vp vq vb) (hu : Kp W W') : MkAt w W' R M D vl k d vt vp vq vb :=
  ⟨h.kp.trans hu, h.num.upd hu id, h.row.upd hu id, h.res.upd hu id, h.ne, h.hR, h.hM, h.hD, h.t.far hu, h.p.far hu, h.q.far hu, h.b.far hu, h.ht, h.hp, h.hq, h.hb⟩
/-- a number has been read -/
theorem MkAt.next (h : MkAt w W R M D vl k d vt vp vq vb) {k' : Nat} (hr : Row W' M 72 [vl, .int .i64 k']) (hu : Upd (· = M) W W') : MkAt w W' R M D vl k' d vt vp vq vb := by
  have e1 : D ≠ M := fun e => (h.row.ne_ h.num (by decide)) e
  have e2 : R ≠ M := fun e => (h.res.ne_ h.num (by decide)) e
  refine ⟨Upd.trans h.kp hu (fun k hk e => by have := h.hM; omega), hr, h.row.upd hu e1, h.res.upd hu e2, h.ne, h.hR, h.hM, h.hD, ?_, ?_, ?_, ?_, h.ht, h.hp, h.hq, h.hb⟩
  · exact h.t.upd hu (fun g hg e => h.t.ne_row h.num (by decide) (by rw [hg, e]))
  · exact h.p.upd hu (fun g hg e => h.p.ne_row h.num (by decide) (by rw [hg, e]))
  · exact h.q.upd hu (fun g hg e => h.q.ne_row h.num (by decide) (by rw [hg, e]))
  · exact h.b.upd hu (fun g hg e => h.b.ne_row h.num (by decide) (by rw [hg, e]))
/-- a field that is no list has been stored -/
theorem MkAt.set (h : MkAt w W R M D vl k d vt vp vq vb) (i : Nat) (u : Value) {d' : DrawL} (hd : (dcells d vt vp vq vb).set i u = dcells d' vt vp vq vb) (ht : d'.tiers = d.tiers) (hp : d'.places = d.places) (hq : d'.quotas = d.quotas) (hb : d'.barred = d.barred) :
    MkAt w (W.setCell ⟨D, i, none⟩ u) R M D vl k d' vt vp vq vb := by
  have hu : Upd (· = D) W (W.setCell ⟨D, i, none⟩ u) := (Upd.refl (· = D) W).setCell (fun _ => rfl) u
  have e1 : M ≠ D := fun e => (h.num.ne_ h.row (by decide)) e
  refine ⟨Upd.trans h.kp hu (fun k hk e => by have := h.hD; omega), h.num.upd hu e1, hd ▸ h.row.set i u, h.res.upd hu h.ne, h.ne, h.hR, h.hM, h.hD, ?_, ?_, ?_, ?_, h.ht, h.hp, h.hq, h.hb⟩
  · rw [ht]; exact h.t.upd hu (fun g hg e => h.t.ne_row h.row (by decide) (by rw [hg, e]))
  · rw [hp]; exact h.p.upd hu (fun g hg e => h.p.ne_row h.row (by decide) (by rw [hg, e]))
  · rw [hq]; exact h.q.upd hu (fun g hg e => h.q.ne_row h.row (by decide) (by rw [hg, e]))
  · rw [hb]; exact h.b.upd hu (fun g hg e => h.b.ne_row h.row (by decide) (by rw [hg, e]))
/-- a barred entrant has been appended, and the field is stored -/
theorem MkAt.addB (h : MkAt w W R M D vl k d vt vp vq vb) {W1 W2 : World} {v : Value} {x : Int} (h0 : Kp W W1) (ha : Appended W1 vb 3 1 (d.barred.length + 1) (d.barred.flatMap numE ++ [.int .i64 x]) v W2) :
    Row W2 D 30 (dcells d vt vp vq vb) ∧ MkAt w (W2.setCell ⟨D, 12, none⟩ v) R M D vl k { d with barred := d.barred ++ [x] } vt vp vq v := by
  have h1 := h.far h0
  have hu := ha.upd
  have n1 : vb.ownBlock ≠ some M := h1.b.ne_row h1.num (by decide)
  have n2 : vb.ownBlock ≠ some D := h1.b.ne_row h1.row (by decide)
  have n3 : vb.ownBlock ≠ some R := h1.b.ne_row h1.res (by decide)
  have r2 := h1.row.upd hu n2
  refine ⟨r2, ?_⟩
  have hs : Upd (· = D) W2 (W2.setCell ⟨D, 12, none⟩ v) := (Upd.refl (· = D) W2).setCell (fun _ => rfl) v
  have num2 := h1.num.upd hu n1
  have res2 := h1.res.upd hu n3
  have e1 : M ≠ D := fun e => (h.num.ne_ h.row (by decide)) e
  have t2 := h1.t.upd hu (fun g hg e => (h1.t.ne_sl h1.b (by decide)) g hg e)
  have p2 := h1.p.upd hu (fun g hg e => (h1.p.ne_sl h1.b (by decide)) g hg e)
  have q2 := h1.q.upd hu (fun g hg e => (h1.q.ne_sl h1.b (by decide)) g hg e)
  refine ⟨Upd.trans (Upd.trans h1.kp hu (fun g hg e => by have := h.hb g e; omega)) hs (fun k hk e => by have := h.hD; omega), num2.upd hs e1, r2.set 12 v, res2.upd hs h.ne, h.ne, h.hR, h.hM, h.hD, ?_, ?_, ?_, ?_, h.ht, h.hp, h.hq, ?_⟩
  · exact t2.upd hs (fun g hg e => t2.ne_row r2 (by decide) (by rw [hg, e]))
  · exact p2.upd hs (fun g hg e => p2.ne_row r2 (by decide) (by rw [hg, e]))
  · exact q2.upd hs (fun g hg e => q2.ne_row r2 (by decide) (by rw [hg, e]))
  · have s2 := ha.sl.upd hs (fun g hg e => ha.sl.ne_row r2 (by decide) (by rw [hg, e]))
    show Sl _ v _ 1 (d.barred ++ [x]).length ((d.barred ++ [x]).flatMap numE)
    rw [List.length_append, List.flatMap_append]
    exact s2
  · intro g hg
    rcases ha.at_ with e | e
    · exact h.hb g (by rw [← e.1]; exact hg)
    · rw [e.1] at hg
      cases hg
      exact h1.kp.size
/-- a tier has been appended, and the field is stored -/
theorem MkAt.addT (h : MkAt w W R M D vl k d vt vp vq vb) {W1 W2 : World} {v : Value} {x : Int × Int} (h0 : Kp W W1) (ha : Appended W1 vt 63 2 (d.tiers.length + 1) (d.tiers.flatMap tierE ++ tierE x) v W2) :
    Row W2 D 30 (dcells d vt vp vq vb) ∧ MkAt w (W2.setCell ⟨D, 6, none⟩ v) R M D vl k { d with tiers := d.tiers ++ [x] } v vp vq vb := by
  have h1 := h.far h0
  have hu := ha.upd
  have n1 : vt.ownBlock ≠ some M := h1.t.ne_row h1.num (by decide)
  have n2 : vt.ownBlock ≠ some D := h1.t.ne_row h1.row (by decide)
  have n3 : vt.ownBlock ≠ some R := h1.t.ne_row h1.res (by decide)
  have r2 := h1.row.upd hu n2
  refine ⟨r2, ?_⟩
  have hs : Upd (· = D) W2 (W2.setCell ⟨D, 6, none⟩ v) := (Upd.refl (· = D) W2).setCell (fun _ => rfl) v
  have num2 := h1.num.upd hu n1
  have res2 := h1.res.upd hu n3
  have e1 : M ≠ D := fun e => (h.num.ne_ h.row (by decide)) e
  have p2 := h1.p.upd hu (fun g hg e => (h1.p.ne_sl h1.t (by decide)) g hg e)
  have q2 := h1.q.upd hu (fun g hg e => (h1.q.ne_sl h1.t (by decide)) g hg e)
  have b2 := h1.b.upd hu (fun g hg e => (h1.b.ne_sl h1.t (by decide)) g hg e)
  refine ⟨Upd.trans (Upd.trans h1.kp hu (fun g hg e => by have := h.ht g e; omega)) hs (fun k hk e => by have := h.hD; omega), num2.upd hs e1, r2.set 6 v, res2.upd hs h.ne, h.ne, h.hR, h.hM, h.hD, ?_, ?_, ?_, ?_, ?_, h.hp, h.hq, h.hb⟩
  · have s2 := ha.sl.upd hs (fun g hg e => ha.sl.ne_row r2 (by decide) (by rw [hg, e]))
    show Sl _ v _ 2 (d.tiers ++ [x]).length ((d.tiers ++ [x]).flatMap tierE)
    rw [List.length_append, List.flatMap_append]
    simpa using s2
  · exact p2.upd hs (fun g hg e => p2.ne_row r2 (by decide) (by rw [hg, e]))
  · exact q2.upd hs (fun g hg e => q2.ne_row r2 (by decide) (by rw [hg, e]))
  · exact b2.upd hs (fun g hg e => b2.ne_row r2 (by decide) (by rw [hg, e]))
  · intro g hg
    rcases ha.at_ with e | e
    · exact h.ht g (by rw [← e.1]; exact hg)
    · rw [e.1] at hg
      cases hg
      exact h1.kp.size
/-- a place has been appended, and the field is stored -/
theorem MkAt.addP (h : MkAt w W R M D vl k d vt vp vq vb) {W1 W2 : World} {v : Value} {x : List UInt8 × Int} (h0 : Kp W W1) (ha : Appended W1 vp 65 2 (d.places.length + 1) (d.places.flatMap placeE ++ placeE x) v W2) :
    Row W2 D 30 (dcells d vt vp vq vb) ∧ MkAt w (W2.setCell ⟨D, 8, none⟩ v) R M D vl k { d with places := d.places ++ [x] } vt v vq vb := by
  have h1 := h.far h0
  have hu := ha.upd
  have n1 : vp.ownBlock ≠ some M := h1.p.ne_row h1.num (by decide)
  have n2 : vp.ownBlock ≠ some D := h1.p.ne_row h1.row (by decide)
  have n3 : vp.ownBlock ≠ some R := h1.p.ne_row h1.res (by decide)
  have r2 := h1.row.upd hu n2
  refine ⟨r2, ?_⟩
  have hs : Upd (· = D) W2 (W2.setCell ⟨D, 8, none⟩ v) := (Upd.refl (· = D) W2).setCell (fun _ => rfl) v
  have num2 := h1.num.upd hu n1
  have res2 := h1.res.upd hu n3
  have e1 : M ≠ D := fun e => (h.num.ne_ h.row (by decide)) e
  have t2 := h1.t.upd hu (fun g hg e => (h1.t.ne_sl h1.p (by decide)) g hg e)
  have q2 := h1.q.upd hu (fun g hg e => (h1.q.ne_sl h1.p (by decide)) g hg e)
  have b2 := h1.b.upd hu (fun g hg e => (h1.b.ne_sl h1.p (by decide)) g hg e)
  refine ⟨Upd.trans (Upd.trans h1.kp hu (fun g hg e => by have := h.hp g e; omega)) hs (fun k hk e => by have := h.hD; omega), num2.upd hs e1, r2.set 8 v, res2.upd hs h.ne, h.ne, h.hR, h.hM, h.hD, ?_, ?_, ?_, ?_, h.ht, ?_, h.hq, h.hb⟩
  · exact t2.upd hs (fun g hg e => t2.ne_row r2 (by decide) (by rw [hg, e]))
  · have s2 := ha.sl.upd hs (fun g hg e => ha.sl.ne_row r2 (by decide) (by rw [hg, e]))
    show Sl _ v _ 2 (d.places ++ [x]).length ((d.places ++ [x]).flatMap placeE)
    rw [List.length_append, List.flatMap_append]
    simpa using s2
  · exact q2.upd hs (fun g hg e => q2.ne_row r2 (by decide) (by rw [hg, e]))
  · exact b2.upd hs (fun g hg e => b2.ne_row r2 (by decide) (by rw [hg, e]))
  · intro g hg
    rcases ha.at_ with e | e
    · exact h.hp g (by rw [← e.1]; exact hg)
    · rw [e.1] at hg
      cases hg
      exact h1.kp.size
/-- a quota has been appended, and the field is stored -/
theorem MkAt.addQ (h : MkAt w W R M D vl k d vt vp vq vb) {W1 W2 : World} {v : Value} {x : List UInt8 × Int × Int} (h0 : Kp W W1) (ha : Appended W1 vq 67 3 (d.quotas.length + 1) (d.quotas.flatMap quotaE ++ quotaE x) v W2) :
    Row W2 D 30 (dcells d vt vp vq vb) ∧ MkAt w (W2.setCell ⟨D, 11, none⟩ v) R M D vl k { d with quotas := d.quotas ++ [x] } vt vp v vb := by
  have h1 := h.far h0
  have hu := ha.upd
  have n1 : vq.ownBlock ≠ some M := h1.q.ne_row h1.num (by decide)
  have n2 : vq.ownBlock ≠ some D := h1.q.ne_row h1.row (by decide)
  have n3 : vq.ownBlock ≠ some R := h1.q.ne_row h1.res (by decide)
  have r2 := h1.row.upd hu n2
  refine ⟨r2, ?_⟩
  have hs : Upd (· = D) W2 (W2.setCell ⟨D, 11, none⟩ v) := (Upd.refl (· = D) W2).setCell (fun _ => rfl) v
  have num2 := h1.num.upd hu n1
  have res2 := h1.res.upd hu n3
  have e1 : M ≠ D := fun e => (h.num.ne_ h.row (by decide)) e
  have t2 := h1.t.upd hu (fun g hg e => (h1.t.ne_sl h1.q (by decide)) g hg e)
  have p2 := h1.p.upd hu (fun g hg e => (h1.p.ne_sl h1.q (by decide)) g hg e)
  have b2 := h1.b.upd hu (fun g hg e => (h1.b.ne_sl h1.q (by decide)) g hg e)
  refine ⟨Upd.trans (Upd.trans h1.kp hu (fun g hg e => by have := h.hq g e; omega)) hs (fun k hk e => by have := h.hD; omega), num2.upd hs e1, r2.set 11 v, res2.upd hs h.ne, h.ne, h.hR, h.hM, h.hD, ?_, ?_, ?_, ?_, h.ht, h.hp, ?_, h.hb⟩
  · exact t2.upd hs (fun g hg e => t2.ne_row r2 (by decide) (by rw [hg, e]))
  · exact p2.upd hs (fun g hg e => p2.ne_row r2 (by decide) (by rw [hg, e]))
  · have s2 := ha.sl.upd hs (fun g hg e => ha.sl.ne_row r2 (by decide) (by rw [hg, e]))
    show Sl _ v _ 3 (d.quotas ++ [x]).length ((d.quotas ++ [x]).flatMap quotaE)
    rw [List.length_append, List.flatMap_append]
    simpa using s2
  · exact b2.upd hs (fun g hg e => b2.ne_row r2 (by decide) (by rw [hg, e]))
  · intro g hg
    rcases ha.at_ with e | e
    · exact h.hq g (by rw [← e.1]; exact hg)
    · rw [e.1] at hg
      cases hg
      exact h1.kp.size
end
end Go.Proofs.Ytaejnhgnacgheaa
