/- an entrant under way: what holds between two statements (printed by gen-t29.py). -/
import Derived.Test.YtaejnhgnacgheaaT27
namespace Go.Proofs.Ytaejnhgnacgheaa
set_option linter.unusedVariables false
set_option linter.unusedSimpArgs false
open Go.RowKit

/-- an entrant at block D; its lists in blocks of their own -/
structure EtAt (B : Nat) (W : World) (D : Nat) (d : EntL) (vp vw vg : Value) : Prop where
  row : Row W D 46 (ecells d vp vw vg)
  hD : B ≤ D
  p : Sl W vp 3 1 d.picks.length (d.picks.flatMap numE)
  wi : Sl W vw 9 1 d.wishes.length (d.wishes.flatMap strE)
  g : Sl W vg 9 1 d.groups.length (d.groups.flatMap strE)
  hp : ∀ b, vp.ownBlock = some b → B ≤ b
  hw : ∀ b, vw.ownBlock = some b → B ≤ b
  hg : ∀ b, vg.ownBlock = some b → B ≤ b
  wg : ∀ b, vw.ownBlock = some b → vg.ownBlock ≠ some b
section
variable {w W W' : World} {B D : Nat} {d : EntL} {vp vw vg : Value}
theorem EtAt.far (h : EtAt B W D d vp vw vg) (hu : Kp W W') : EtAt B W' D d vp vw vg :=
  ⟨h.row.upd hu id, h.hD, h.p.far hu, h.wi.far hu, h.g.far hu, h.hp, h.hw, h.hg, h.wg⟩
/-- something else has been written -/
theorem EtAt.off {S : Nat → Prop} (h : EtAt B W D d vp vw vg) (hu : Upd S W W') (hD : ¬ S D) (h1 : ∀ b, vp.ownBlock = some b → ¬ S b) (h2 : ∀ b, vw.ownBlock = some b → ¬ S b) (h3 : ∀ b, vg.ownBlock = some b → ¬ S b) : EtAt B W' D d vp vw vg :=
  ⟨h.row.upd hu hD, h.hD, h.p.upd hu h1, h.wi.upd hu h2, h.g.upd hu h3, h.hp, h.hw, h.hg, h.wg⟩
/-- a row of another type has been written -/
theorem EtAt.offRow {M : Nat} {e : TypeId} {cs : List Value} (h : EtAt B W D d vp vw vg) (hr : Row W M e cs) (h1 : 3 ≠ e) (h2 : 9 ≠ e) (h3 : D ≠ M) (hu : Upd (· = M) W W') : EtAt B W' D d vp vw vg :=
  h.off hu h3 (fun b hb e => h.p.ne_row hr h1 (by rw [hb, e])) (fun b hb e => h.wi.ne_row hr h2 (by rw [hb, e])) (fun b hb e => h.g.ne_row hr h2 (by rw [hb, e]))
/-- a field that is no list has been stored -/
theorem EtAt.set (h : EtAt B W D d vp vw vg) (i : Nat) (u : Value) {d' : EntL} (hd : (ecells d vp vw vg).set i u = ecells d' vp vw vg) (hp : d'.picks = d.picks) (hw : d'.wishes = d.wishes) (hg : d'.groups = d.groups) :
    EtAt B (W.setCell ⟨D, i, none⟩ u) D d' vp vw vg := by
  have hu : Upd (· = D) W (W.setCell ⟨D, i, none⟩ u) := (Upd.refl (· = D) W).setCell (fun _ => rfl) u
  refine ⟨hd ▸ h.row.set i u, h.hD, ?_, ?_, ?_, h.hp, h.hw, h.hg, h.wg⟩
  · rw [hp]; exact h.p.upd hu (fun g hg e => h.p.ne_row h.row (by decide) (by rw [hg, e]))
  · rw [hw]; exact h.wi.upd hu (fun g hg e => h.wi.ne_row h.row (by decide) (by rw [hg, e]))
  · rw [hg]; exact h.g.upd hu (fun g hg e => h.g.ne_row h.row (by decide) (by rw [hg, e]))
/-- elements have been appended to picks, and the field is stored -/
theorem EtAt.addP (h : EtAt B W D d vp vw vg) {W1 W2 : World} {v : Value} {xs : List (Int)} {n : Nat} {ys : List Value} (h0 : Kp W W1) (hn : n = d.picks.length + xs.length) (hy : ys = d.picks.flatMap numE ++ xs.flatMap numE) (ha : Appended W1 vp 3 1 n ys v W2) :
    Row W2 D 46 (ecells d vp vw vg) ∧ EtAt B (W2.setCell ⟨D, 3, none⟩ v) D { d with picks := d.picks ++ xs } v vw vg ∧ Upd (fun b => vp.ownBlock = some b ∨ b = D) W (W2.setCell ⟨D, 3, none⟩ v) := by
  subst hn hy
  have h1 := h.far h0
  have hu := ha.upd
  have n2 : vp.ownBlock ≠ some D := h1.p.ne_row h1.row (by decide)
  have r2 := h1.row.upd hu n2
  have hs : Upd (· = D) W2 (W2.setCell ⟨D, 3, none⟩ v) := (Upd.refl (· = D) W2).setCell (fun _ => rfl) v
  have hall : Upd (fun b => vp.ownBlock = some b ∨ b = D) W (W2.setCell ⟨D, 3, none⟩ v) := Upd.trans (Upd.trans (h0.mono (fun _ _ e => e.elim)) hu (fun _ _ e => .inl e)) hs (fun _ _ e => .inr e)
  have hlow : ∀ b, v.ownBlock = some b → B ≤ b := by
    intro b hb
    rcases ha.at_ with e | e
    · exact h.hp b (by rw [← e.1]; exact hb)
    · rw [e.1] at hb
      cases hb
      have := h1.row.lt
      have := h.hD
      omega
  have wi2 := h1.wi.upd hu (fun b hb e => (h1.wi.ne_sl h1.p (by decide)) b hb e)
  have g2 := h1.g.upd hu (fun b hb e => (h1.g.ne_sl h1.p (by decide)) b hb e)
  refine ⟨r2, ⟨r2.set 3 v, h.hD, ?_, ?_, ?_, hlow, h.hw, h.hg, ?_⟩, hall⟩
  · have s2 := ha.sl.upd hs (fun b hb e => ha.sl.ne_row r2 (by decide) (by rw [hb, e]))
    show Sl _ v _ 1 (d.picks ++ xs).length ((d.picks ++ xs).flatMap numE)
    rw [List.length_append, List.flatMap_append]
    exact s2
  · exact wi2.upd hs (fun b hb e => wi2.ne_row r2 (by decide) (by rw [hb, e]))
  · exact g2.upd hs (fun b hb e => g2.ne_row r2 (by decide) (by rw [hb, e]))
  · exact h.wg
/-- elements have been appended to wishes, and the field is stored -/
theorem EtAt.addW (h : EtAt B W D d vp vw vg) {W1 W2 : World} {v : Value} {xs : List (List UInt8)} {n : Nat} {ys : List Value} (h0 : Kp W W1) (hn : n = d.wishes.length + xs.length) (hy : ys = d.wishes.flatMap strE ++ xs.flatMap strE) (ha : Appended W1 vw 9 1 n ys v W2) :
    Row W2 D 46 (ecells d vp vw vg) ∧ EtAt B (W2.setCell ⟨D, 4, none⟩ v) D { d with wishes := d.wishes ++ xs } vp v vg ∧ Upd (fun b => vw.ownBlock = some b ∨ b = D) W (W2.setCell ⟨D, 4, none⟩ v) := by
  subst hn hy
  have h1 := h.far h0
  have hu := ha.upd
  have n2 : vw.ownBlock ≠ some D := h1.wi.ne_row h1.row (by decide)
  have r2 := h1.row.upd hu n2
  have hs : Upd (· = D) W2 (W2.setCell ⟨D, 4, none⟩ v) := (Upd.refl (· = D) W2).setCell (fun _ => rfl) v
  have hall : Upd (fun b => vw.ownBlock = some b ∨ b = D) W (W2.setCell ⟨D, 4, none⟩ v) := Upd.trans (Upd.trans (h0.mono (fun _ _ e => e.elim)) hu (fun _ _ e => .inl e)) hs (fun _ _ e => .inr e)
  have hlow : ∀ b, v.ownBlock = some b → B ≤ b := by
    intro b hb
    rcases ha.at_ with e | e
    · exact h.hw b (by rw [← e.1]; exact hb)
    · rw [e.1] at hb
      cases hb
      have := h1.row.lt
      have := h.hD
      omega
  have p2 := h1.p.upd hu (fun b hb e => (h1.p.ne_sl h1.wi (by decide)) b hb e)
  have g2 := h1.g.upd hu (fun b hb e => h1.wg b e hb)
  refine ⟨r2, ⟨r2.set 4 v, h.hD, ?_, ?_, ?_, h.hp, hlow, h.hg, ?_⟩, hall⟩
  · exact p2.upd hs (fun b hb e => p2.ne_row r2 (by decide) (by rw [hb, e]))
  · have s2 := ha.sl.upd hs (fun b hb e => ha.sl.ne_row r2 (by decide) (by rw [hb, e]))
    show Sl _ v _ 1 (d.wishes ++ xs).length ((d.wishes ++ xs).flatMap strE)
    rw [List.length_append, List.flatMap_append]
    exact s2
  · exact g2.upd hs (fun b hb e => g2.ne_row r2 (by decide) (by rw [hb, e]))
  · intro b hb e
    rcases ha.at_ with ex | ex
    · exact h.wg b (by rw [← ex.1]; exact hb) e
    · rw [ex.1] at hb
      cases hb
      have := h1.g.lt e
      omega
/-- elements have been appended to groups, and the field is stored -/
theorem EtAt.addG (h : EtAt B W D d vp vw vg) {W1 W2 : World} {v : Value} {xs : List (List UInt8)} {n : Nat} {ys : List Value} (h0 : Kp W W1) (hn : n = d.groups.length + xs.length) (hy : ys = d.groups.flatMap strE ++ xs.flatMap strE) (ha : Appended W1 vg 9 1 n ys v W2) :
    Row W2 D 46 (ecells d vp vw vg) ∧ EtAt B (W2.setCell ⟨D, 5, none⟩ v) D { d with groups := d.groups ++ xs } vp vw v ∧ Upd (fun b => vg.ownBlock = some b ∨ b = D) W (W2.setCell ⟨D, 5, none⟩ v) := by
  subst hn hy
  have h1 := h.far h0
  have hu := ha.upd
  have n2 : vg.ownBlock ≠ some D := h1.g.ne_row h1.row (by decide)
  have r2 := h1.row.upd hu n2
  have hs : Upd (· = D) W2 (W2.setCell ⟨D, 5, none⟩ v) := (Upd.refl (· = D) W2).setCell (fun _ => rfl) v
  have hall : Upd (fun b => vg.ownBlock = some b ∨ b = D) W (W2.setCell ⟨D, 5, none⟩ v) := Upd.trans (Upd.trans (h0.mono (fun _ _ e => e.elim)) hu (fun _ _ e => .inl e)) hs (fun _ _ e => .inr e)
  have hlow : ∀ b, v.ownBlock = some b → B ≤ b := by
    intro b hb
    rcases ha.at_ with e | e
    · exact h.hg b (by rw [← e.1]; exact hb)
    · rw [e.1] at hb
      cases hb
      have := h1.row.lt
      have := h.hD
      omega
  have p2 := h1.p.upd hu (fun b hb e => (h1.p.ne_sl h1.g (by decide)) b hb e)
  have wi2 := h1.wi.upd hu (fun b hb e => h1.wg b hb e)
  refine ⟨r2, ⟨r2.set 5 v, h.hD, ?_, ?_, ?_, h.hp, h.hw, hlow, ?_⟩, hall⟩
  · exact p2.upd hs (fun b hb e => p2.ne_row r2 (by decide) (by rw [hb, e]))
  · exact wi2.upd hs (fun b hb e => wi2.ne_row r2 (by decide) (by rw [hb, e]))
  · have s2 := ha.sl.upd hs (fun b hb e => ha.sl.ne_row r2 (by decide) (by rw [hb, e]))
    show Sl _ v _ 1 (d.groups ++ xs).length ((d.groups ++ xs).flatMap strE)
    rw [List.length_append, List.flatMap_append]
    exact s2
  · intro b hb e
    rcases ha.at_ with ex | ex
    · exact h.wg b hb (by rw [← ex.1]; exact e)
    · rw [ex.1] at e
      cases e
      have := h1.wi.lt hb
      omega
/-- an entrant whose lists lie in rows of their own types -/
structure EntSl (w : World) (d : EntL) (vp vw vg : Value) : Prop where
  p : Sl w vp 3 1 d.picks.length (d.picks.flatMap numE)
  wi : Sl w vw 9 1 d.wishes.length (d.wishes.flatMap strE)
  g : Sl w vg 9 1 d.groups.length (d.groups.flatMap strE)
  ok : EntOk d
theorem EntSl.in_ (h : EntSl w d vp vw vg) : EntIn w d vp vw vg := ⟨Sl.lst (fun _ => rfl) h.p, Sl.lst (fun _ => rfl) h.wi, Sl.lst (fun _ => rfl) h.g, h.ok⟩
theorem EntSl.kp (h : EntSl w d vp vw vg) (hu : Kp w W) : EntSl W d vp vw vg := ⟨h.p.far hu, h.wi.far hu, h.g.far hu, h.ok⟩
/-- a row of another type has been written -/
theorem EntSl.off {g : Nat} {e : TypeId} {cs : List Value} (h : EntSl w d vp vw vg) (hr : Row w g e cs) (h1 : 3 ≠ e) (h2 : 9 ≠ e) (hu : Upd (· = g) w W) : EntSl W d vp vw vg :=
  ⟨h.p.upd hu (fun k hk ex => h.p.ne_row hr h1 (by rw [hk, ex])), h.wi.upd hu (fun k hk ex => h.wi.ne_row hr h2 (by rw [hk, ex])), h.g.upd hu (fun k hk ex => h.g.ne_row hr h2 (by rw [hk, ex])), h.ok⟩
theorem EtAt.sl (h : EtAt B W D d vp vw vg) (ok : EntOk d) : EntSl W d vp vw vg := ⟨h.p, h.wi, h.g, ok⟩
end
/-- a cell of a slice of one-cell elements -/
theorem Sl.cell1 {w : World} {g off n cap e : Nat} {xs : List Value} (h : Sl w (.slice (some ⟨g, off, none⟩) n cap) e 1 n xs) {j : Nat} (hj : j < n) :
    (∃ u, w.cell? ⟨g, off + j, none⟩ = some u) ∧ w.frozen? ⟨g, off + j, none⟩ = false ∧ ∀ u, Sl (w.setCell ⟨g, off + j, none⟩ u) (.slice (some ⟨g, off, none⟩) n cap) e 1 n (xs.set j u) := by
  obtain ⟨hl, h⟩ := h
  rcases h with ⟨h, _⟩ | ⟨g', off', cap', cs, h, hr, hnc, hcm, hlen, ht⟩
  · cases h
  · cases h
    have hjl : off + j < cs.length := by omega
    refine ⟨⟨cs[off + j], by rw [hr.cell, List.getElem?_eq_getElem hjl]⟩, hr.frozen hjl, fun u => ⟨by simpa using hl, .inr ⟨g, off, cap, cs.set (off + j) u, rfl, hr.set _ u, hnc, hcm, by simpa using hlen, ?_⟩⟩⟩
    rw [← ht]
    apply List.ext_getElem?
    intro i
    simp only [List.getElem?_take, List.getElem?_drop, List.getElem?_set, List.length_take, List.length_drop]
    grind
end Go.Proofs.Ytaejnhgnacgheaa
