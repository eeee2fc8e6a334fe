/- an entrant with a change: Odd (printed by gen-t30.py). -/
import Derived.Test.YtaejnhgnacgheaaT29
namespace Go.Proofs.Ytaejnhgnacgheaa
set_option linter.unusedVariables false
set_option linter.unusedSimpArgs false
open Go.RowKit

abbrev zero6 : List Value := [.int .i64 0, .int .i64 0, .int .i64 0, .slice none 0 0, .slice none 0 0, .slice none 0 0]
def oLst : List Int := [-1, 0, 1, 2, 3, 5, 10, 61, 1000000000, 1000000001]
def vLst : List (List UInt8) := [[], [97], [98], [122], [65]]
theorem oLst_get (k : Nat) (hk : k < 10) : ∃ x, (oLst.flatMap numE)[k]? = some (.int .i64 x) ∧ in64 x := by
  rw [numE_flat, List.getElem?_map, List.getElem?_eq_getElem (by simpa [oLst] using hk)]
  refine ⟨_, rfl, ?_⟩
  have : ∀ x ∈ oLst, in64 x := by decide
  exact this _ (List.getElem_mem _)
theorem vLst_get (k : Nat) (hk : k < 5) : ∃ x : List UInt8, (vLst.flatMap strE)[k]? = some (.string ⟨x.toArray⟩) ∧ x.length ≤ 31 := by
  rw [strE_flat, List.getElem?_map, List.getElem?_eq_getElem (by simpa [vLst] using hk)]
  refine ⟨_, rfl, ?_⟩
  have : ∀ x ∈ vLst, x.length ≤ 31 := by decide
  exact this _ (List.getElem_mem _)
def ELens (N : Nat) (d : EntL) : Prop := EntOk d ∧ d.picks.length ≤ N ∧ d.wishes.length ≤ N ∧ d.groups.length ≤ N
theorem ELens.mono {N M : Nat} {d : EntL} (h : ELens N d) (hm : N ≤ M) : ELens M d := ⟨h.1, by have := h.2.1; omega, by have := h.2.2.1; omega, by have := h.2.2.2; omega⟩
theorem el_set {N : Nat} {d d' : EntL} (h : ELens N d) (hp : d'.picks = d.picks) (hw : d'.wishes = d.wishes) (hg : d'.groups = d.groups) : ELens (N + 20) d' := by
  obtain ⟨h1, h2, h3, h4⟩ := h
  exact ⟨⟨by rw [hp]; exact h1.picks, by rw [hw]; exact h1.wishes, by rw [hg]; exact h1.groups, by rw [hp]; exact h1.pick64, by rw [hw]; exact h1.wish, by rw [hg]; exact h1.group⟩, by rw [hp]; omega, by rw [hw]; omega, by rw [hg]; omega⟩
theorem el_p {N : Nat} {d : EntL} (h : ELens N d) (hN : N ≤ 100000) {B : List Int} (hl : B.length ≤ N + 20) (ho : ∀ b, b ∈ B → in64 b) : ELens (N + 20) { d with picks := B } := by
  obtain ⟨h1, h2, h3, h4⟩ := h
  exact ⟨⟨by show B.length ≤ _; omega, h1.wishes, h1.groups, ho, h1.wish, h1.group⟩, hl, by show d.wishes.length ≤ _; omega, by show d.groups.length ≤ _; omega⟩
theorem el_wi {N : Nat} {d : EntL} (h : ELens N d) (hN : N ≤ 100000) {B : List (List UInt8)} (hl : B.length ≤ N + 20) (ho : ∀ b, b ∈ B → okS b) : ELens (N + 20) { d with wishes := B } := by
  obtain ⟨h1, h2, h3, h4⟩ := h
  exact ⟨⟨h1.picks, by show B.length ≤ _; omega, h1.groups, h1.pick64, ho, h1.group⟩, by show d.picks.length ≤ _; omega, hl, by show d.groups.length ≤ _; omega⟩
theorem el_g {N : Nat} {d : EntL} (h : ELens N d) (hN : N ≤ 100000) {B : List (List UInt8)} (hl : B.length ≤ N + 20) (ho : ∀ b, b ∈ B → okS b) : ELens (N + 20) { d with groups := B } := by
  obtain ⟨h1, h2, h3, h4⟩ := h
  exact ⟨⟨h1.picks, h1.wishes, by show B.length ≤ _; omega, h1.pick64, h1.wish, ho⟩, by show d.picks.length ≤ _; omega, by show d.wishes.length ≤ _; omega, hl⟩
theorem mem_set {α : Type} {p : α → Prop} {L : List α} {x : α} (h : ∀ a, a ∈ L → p a) (hx : p x) (i : Nat) : ∀ a, a ∈ L.set i x → p a := by
  intro a ha
  rcases List.mem_or_eq_of_mem_set ha with h1 | h1
  · exact h a h1
  · rw [h1]; exact hx
/-- under way, with the result's block -/
structure EtR (w W : World) (D : Nat) (d : EntL) (vp vw vg : Value) (R : Nat) : Prop where
  kp : Kp w W
  at_ : EtAt w.heap.size W D d vp vw vg
  res : Row W R 46 zero6
  ne : R ≠ D
  hR : w.heap.size ≤ R
def EtI (w W : World) (R D N : Nat) : Prop := ∃ d vp vw vg, EtR w W D d vp vw vg R ∧ ELens N d
/-- what Odd leaves -/
def OddP (N : Nat) (w : World) (e : Ending) (w' : World) : Prop :=
  ∃ (d : EntL) (vp vw vg : Value), e = .returned (evalE d vp vw vg) ∧ EntSl w' d vp vw vg ∧ ELens N d ∧ Kp w w'
section
variable {w W W' W1 W2 : World} {R D : Nat} {d : EntL} {vp vw vg v : Value} {N : Nat}
theorem EtR.far (h : EtR w W D d vp vw vg R) (hu : Kp W W') : EtR w W' D d vp vw vg R := ⟨h.kp.trans hu, h.at_.far hu, h.res.upd hu id, h.ne, h.hR⟩
theorem EtR.set (h : EtR w W D d vp vw vg R) (i : Nat) (u : Value) {d' : EntL} (hd : (ecells d vp vw vg).set i u = ecells d' vp vw vg) (hp : d'.picks = d.picks) (hw : d'.wishes = d.wishes) (hg : d'.groups = d.groups) :
    EtR w (W.setCell ⟨D, i, none⟩ u) D d' vp vw vg R := ⟨Upd.trans h.kp ((Upd.refl (· = D) W).setCell (fun _ => rfl) u) (fun b hb e => by have := h.at_.hD; omega), h.at_.set i u hd hp hw hg, h.res.upd ((Upd.refl (· = D) W).setCell (fun _ => rfl) u) h.ne, h.ne, h.hR⟩
theorem EtR.addP (h : EtR w W D d vp vw vg R) {xs : List Int} {n : Nat} {ys : List Value} (h0 : Kp W W1) (hn : n = d.picks.length + xs.length) (hy : ys = d.picks.flatMap numE ++ xs.flatMap numE) (ha : Appended W1 vp 3 1 n ys v W2) :
    Row W2 D 46 (ecells d vp vw vg) ∧ EtR w (W2.setCell ⟨D, 3, none⟩ v) D { d with picks := d.picks ++ xs } v vw vg R := by
  obtain ⟨h1, h2, h3⟩ := h.at_.addP h0 hn hy ha
  exact ⟨h1, Upd.trans h.kp h3 (fun b hb e => e.elim (fun e => by have := h.at_.hp b e; omega) (fun e => by have := h.at_.hD; omega)), h2, h.res.upd h3 (fun e => e.elim (fun e => h.at_.p.ne_row h.res (by decide) e) h.ne), h.ne, h.hR⟩
theorem EtR.addW (h : EtR w W D d vp vw vg R) {xs : List (List UInt8)} {n : Nat} {ys : List Value} (h0 : Kp W W1) (hn : n = d.wishes.length + xs.length) (hy : ys = d.wishes.flatMap strE ++ xs.flatMap strE) (ha : Appended W1 vw 9 1 n ys v W2) :
    Row W2 D 46 (ecells d vp vw vg) ∧ EtR w (W2.setCell ⟨D, 4, none⟩ v) D { d with wishes := d.wishes ++ xs } vp v vg R := by
  obtain ⟨h1, h2, h3⟩ := h.at_.addW h0 hn hy ha
  exact ⟨h1, Upd.trans h.kp h3 (fun b hb e => e.elim (fun e => by have := h.at_.hw b e; omega) (fun e => by have := h.at_.hD; omega)), h2, h.res.upd h3 (fun e => e.elim (fun e => h.at_.wi.ne_row h.res (by decide) e) h.ne), h.ne, h.hR⟩
theorem EtR.addG (h : EtR w W D d vp vw vg R) {xs : List (List UInt8)} {n : Nat} {ys : List Value} (h0 : Kp W W1) (hn : n = d.groups.length + xs.length) (hy : ys = d.groups.flatMap strE ++ xs.flatMap strE) (ha : Appended W1 vg 9 1 n ys v W2) :
    Row W2 D 46 (ecells d vp vw vg) ∧ EtR w (W2.setCell ⟨D, 5, none⟩ v) D { d with groups := d.groups ++ xs } vp vw v R := by
  obtain ⟨h1, h2, h3⟩ := h.at_.addG h0 hn hy ha
  exact ⟨h1, Upd.trans h.kp h3 (fun b hb e => e.elim (fun e => by have := h.at_.hg b e; omega) (fun e => by have := h.at_.hD; omega)), h2, h.res.upd h3 (fun e => e.elim (fun e => h.at_.g.ne_row h.res (by decide) e) h.ne), h.ne, h.hR⟩
/-- a pick has been stored -/
theorem EtR.pick {b off n cap : Nat} (h : EtR w W D d (.slice (some ⟨b, off, none⟩) n cap) vw vg R) {j : Nat} (hn : n = d.picks.length) (hj : j < n) (x : Int) :
    EtR w (W.setCell ⟨b, off + j, none⟩ (.int .i64 x)) D { d with picks := d.picks.set j x } (.slice (some ⟨b, off, none⟩) n cap) vw vg R := by
  have hu : Upd (· = b) W (W.setCell ⟨b, off + j, none⟩ (.int .i64 x)) := (Upd.refl (· = b) W).setCell (fun _ => rfl) _
  have hsl := h.at_.p
  rw [← hn] at hsl
  obtain ⟨_, _, h3⟩ := hsl.cell1 hj
  have h4 := h3 (.int .i64 x)
  have hob : (Value.slice (some ⟨b, off, none⟩) n cap).ownBlock = some b := rfl
  have n1 : D ≠ b := fun e => hsl.ne_row h.at_.row (by decide) (by rw [hob, e])
  have n2 : R ≠ b := fun e => hsl.ne_row h.res (by decide) (by rw [hob, e])
  refine ⟨Upd.trans h.kp hu (fun k hk e => by have := h.at_.hp b hob; omega), ⟨h.at_.row.upd hu n1, h.at_.hD, ?_, h.at_.wi.upd hu (fun k hk e => by subst e; exact h.at_.wi.ne_sl hsl (by decide) k hk hob), h.at_.g.upd hu (fun k hk e => by subst e; exact h.at_.g.ne_sl hsl (by decide) k hk hob), h.at_.hp, h.at_.hw, h.at_.hg, h.at_.wg⟩, h.res.upd hu n2, h.ne, h.hR⟩
  show Sl _ _ _ 1 (d.picks.set j x).length ((d.picks.set j x).flatMap numE)
  rw [List.length_set, ← hn, numE_flat, List.map_set, ← numE_flat]
  exact h4
theorem odd_done (h : EtR w W D d vp vw vg R) (hs : ELens N d) (hu : Upd (· = R) W W') : OddP N w (.returned (evalE d vp vw vg)) W' :=
  ⟨d, vp, vw, vg, rfl, (h.at_.sl hs.1).off h.res (by decide) (by decide) hu, hs, Upd.trans h.kp hu (fun k hk e => by have := h.hR; omega)⟩
/-- the entrant lies in D; the lists are not the call's own yet -/
structure EtPre (w W : World) (R D : Nat) (d : EntL) (vp vw vg : Value) : Prop where
  kp : Kp w W
  row : Row W D 46 (ecells d vp vw vg)
  res : Row W R 46 zero6
theorem EtPre.far (h : EtPre w W R D d vp vw vg) (hu : Kp W W') : EtPre w W' R D d vp vw vg := ⟨h.kp.trans hu, h.row.upd hu id, h.res.upd hu id⟩
theorem clone_et {e k n : Nat} {xs : List Value} {vp' vw' vg' : Value} (h : EtPre w W R D d vp vw vg) (hne : R ≠ D) (hD : w.heap.size ≤ D) (ha : Appended (W.alloc (.cells #[] e)) (.slice (some ⟨W.heap.size, 0, none⟩) 0 0) e k n xs v W2) (he : e ≠ 46) (i : Nat) (hd : (ecells d vp vw vg).set i v = ecells d vp' vw' vg') :
    EtPre w (W2.setCell ⟨D, i, none⟩ v) R D d vp' vw' vg' ∧ Sl (W2.setCell ⟨D, i, none⟩ v) v e k n xs ∧ (∀ g, v.ownBlock = some g → W.heap.size ≤ g) ∧ Upd (· = D) W (W2.setCell ⟨D, i, none⟩ v) ∧ Row W2 D 46 (ecells d vp vw vg) := by
  have h1 := h.far ((Upd.refl _ W).alloc (.cells #[] e))
  have hz : (W.alloc (.cells #[] e)).heap.size = W.heap.size + 1 := by simp
  have hDl := h.row.lt
  have hRl := h.res.lt
  have hu := ha.upd
  have nD : ¬ (Value.slice (some ⟨W.heap.size, 0, none⟩) 0 0).ownBlock = some D := by simp [Value.ownBlock]; omega
  have r2 := h1.row.upd hu nD
  have hs : Upd (· = D) W2 (W2.setCell ⟨D, i, none⟩ v) := (Upd.refl (· = D) W2).setCell (fun _ => rfl) v
  have hu0 : Upd (· = D) W W2 := Upd.trans ((Upd.refl (· = D) W).alloc _) hu (fun b hb hx => by simp [Value.ownBlock] at hx; omega)
  have hu3 : Upd (· = D) W (W2.setCell ⟨D, i, none⟩ v) := Upd.trans hu0 hs (fun _ _ h => h)
  refine ⟨⟨Upd.trans h.kp hu3 (fun b hb hx => by omega), hd ▸ r2.set i v, h.res.upd hu3 hne⟩, ha.sl.upd hs (fun g hg ex => ?_), ?_, hu3, r2⟩
  · obtain ⟨cs, hr⟩ := ha.sl.row hg
    exact hr.ne_ r2 he ex
  · intro g hg
    rcases ha.at_ with ex | ex
    · rw [ex.1] at hg
      simp [Value.ownBlock] at hg
      omega
    · rw [ex.1] at hg
      cases hg
      omega
end
theorem el1_g {N i : Nat} {d : EntL} {x : List UInt8} (h : ELens (N + i) d) (hN : N + i ≤ 900000) (hx : okS x) : ELens (N + (i + 1)) { d with groups := d.groups ++ [x] } := by
  obtain ⟨h1, h2, h3, h4⟩ := h
  exact ⟨⟨h1.picks, h1.wishes, by show (d.groups ++ [x]).length ≤ _; simp; omega, h1.pick64, h1.wish, mem_snoc h1.group hx⟩, by show d.picks.length ≤ _; omega, by show d.wishes.length ≤ _; omega, by show (d.groups ++ [x]).length ≤ _; simp; omega⟩
set_option maxHeartbeats 16000000 in
set_option maxRecDepth 20000 in
theorem odd_any (w : World) (d : EntL) (vp vw vg : Value) (h : EntIn w d vp vw vg) (N : Nat) (hN : ELens N d) (hN2 : N ≤ 100000) (q0 q1 q2 : Int) (hq0 : in64 q0) (hq1 : in64 q1) (hq2 : in64 q2) :
    Calls Try.prog 17 #[evalE d vp vw vg, .agg #[.int .i64 q0, .int .i64 q1, .int .i64 q2]] w (OddP (N + 20) w) := by
  obtain ⟨A1, n1, c1, A2, n2, c2, A3, n3, c3, rfl, rfl, rfl, hn⟩ : ∃ A1 n1 c1 A2 n2 c2 A3 n3 c3, vp = .slice A1 n1 c1 ∧ vw = .slice A2 n2 c2 ∧ vg = .slice A3 n3 c3 ∧ n1 = d.picks.length ∧ n2 = d.wishes.length ∧ n3 = d.groups.length := by
    obtain ⟨A1, c1, e1, _⟩ := h.p
    obtain ⟨A2, c2, e2, _⟩ := h.wi
    obtain ⟨A3, c3, e3, _⟩ := h.g
    exact ⟨_, _, _, _, _, _, _, _, _, e1, e2, e3, rfl, rfl, rfl⟩
  have HN4 := Lib.hid hn
  have HN := Lib.hid hN
  have HN2 := Lib.hid hN2
  have DI := Lib.hid h
  obtain ⟨m0, hm0, hM0⟩ := mod_nat q0 9 (by decide) (by decide) hq0
  obtain ⟨m1, hm1, hM1⟩ := mod_nat q1 10 (by decide) (by decide) hq1
  obtain ⟨m2, hm2, hM2⟩ := mod_nat q1 5 (by decide) (by decide) hq1
  obtain ⟨nv, hnv, hnv64⟩ := oLst_get m1 hm1
  obtain ⟨wv, hwv, hwvl⟩ := vLst_get m2 hm2
  have M0 := Lib.hid hM0; have M1 := Lib.hid hM1; have M2 := Lib.hid hM2
  have NV := Lib.hid hnv; have NV64 := Lib.hid hnv64; have WV := Lib.hid hwv; have WVL := Lib.hid hwvl
  have LM0 := Lib.hid hm0; have LM1 := Lib.hid hm1; have LM2 := Lib.hid hm2
  have HQ2 := Lib.hid hq2
  clear hn hN hN2 h hq0 hq1 hq2 hM0 hM1 hM2 hnv hnv64 hwv hwvl hm0 hm1 hm2
  go_enter Try.func17, Try.ntmps17
  go_upto_region 1 with fail
  obtain ⟨w0, hw0⟩ : ∃ W, W = ((w.alloc (.cells (ecells d (.slice A1 n1 c1) (.slice A2 n2 c2) (.slice A3 n3 c3)).toArray 46)).alloc (.cells #[.int .i64 q0, .int .i64 q1, .int .i64 q2] 23)).alloc (.cells zero6.toArray 46) := ⟨_, rfl⟩
  change Code.wp _ _ _ _ (((w.alloc (.cells (ecells d (.slice A1 n1 c1) (.slice A2 n2 c2) (.slice A3 n3 c3)).toArray 46)).alloc (.cells #[.int .i64 q0, .int .i64 q1, .int .i64 q2] 23)).alloc (.cells zero6.toArray 46))
  rw [← hw0]
  have P0 : Hid (EtPre w w0 (w.heap.size + 2) w.heap.size d (.slice A1 n1 c1) (.slice A2 n2 c2) (.slice A3 n3 c3)) := Lib.hid (by rw [hw0]; exact ⟨(((Upd.refl _ w).alloc _).alloc _).alloc _, ((Row.new w _ _).upd ((Upd.refl (fun _ => False) _).alloc _) id).upd ((Upd.refl (fun _ => False) _).alloc _) id, Row.new_at _ _ _ _ (by simp)⟩)
  have Q0 : Hid (Row w0 (w.heap.size + 1) 23 [.int .i64 q0, .int .i64 q1, .int .i64 q2]) := Lib.hid (by rw [hw0]; exact (Row.new_at _ _ _ _ (by simp)).upd ((Upd.refl (fun _ => False) _).alloc _) id)
  clear hw0
  have d3 : w0.cell? ⟨w.heap.size, 3, none⟩ = some (.slice A1 n1 c1) := P0.out.row.cell 3
  have hDl := P0.out.row.lt
  have hDn : w.heap.size ≠ w0.heap.size := Nat.ne_of_lt hDl
  have HRD : Hid (Rd (w0.alloc (.cells #[] 3)) (.slice A1 n1 c1) 1 n1 (d.picks.flatMap numE)) := Lib.hid (by have h := Lst.rd (k := 1) (enc := numE) (fun _ => rfl) (DI.out.p.upd (P0.out.kp.trans ((Upd.refl _ w0).alloc (.cells #[] 3)))); have e := HN4.out.1; rw [← e] at h; exact h)
  go_upto_region 2 with (at_builtin; refine wpList_append_sl rfl (.tmp 8) (.tmp 10) _ rfl T_ints (v := .slice (some ⟨w0.heap.size, 0, none⟩) 0 0) (n := 0) (xs := []) rfl (Sl.bare w0 _ _ _ rfl) (m := n1) (news := d.picks.flatMap numE) rfl HRD.out (numE_ones _) (by have := HN.out.2; have := HN2.out; have := HN4.out; unfold maxLen; omega) (by have := HN.out.2; have := HN2.out; have := HN4.out; omega) ?_; intro v1 u1 hA; rw [Nat.zero_add, List.nil_append] at hA; obtain ⟨X1, y1, rfl, _⟩ := hA.sl.form; have HA1 := Lib.hid (clone_et (vp' := (.slice X1 n1 y1)) (vw' := (.slice A2 n2 c2)) (vg' := (.slice A3 n3 c3)) P0.out (by omega) (Nat.le_refl _) hA (by decide) 3 rfl); clear d3; have d3 := HA1.out.2.2.2.2.cell 3; have f3 := HA1.out.2.2.2.2.frozen (j := 3) (by simp [ecells]); clear hA)
  obtain ⟨w1, hw⟩ : ∃ W, W = u1.setCell ⟨w.heap.size, 3, none⟩ (.slice X1 n1 y1) := ⟨_, rfl⟩
  have P1 : Hid (EtPre w w1 (w.heap.size + 2) w.heap.size d (.slice X1 n1 y1) (.slice A2 n2 c2) (.slice A3 n3 c3)) := Lib.hid (by rw [hw]; exact HA1.out.1)
  have UD1 : Hid (Upd (· = w.heap.size) w0 w1) := Lib.hid (by rw [hw]; exact HA1.out.2.2.2.1)
  have Q1 := Lib.hid (Q0.out.upd UD1.out (by omega))
  have S1_1 : Hid (Sl w1 (.slice X1 n1 y1) 3 1 n1 (d.picks.flatMap numE)) := Lib.hid (by rw [hw]; exact HA1.out.2.1)
  have O1 : Hid (∀ g, Value.ownBlock (.slice X1 n1 y1) = some g → w0.heap.size ≤ g) := Lib.hid HA1.out.2.2.1
  rw [← hw]
  clear hw d3 f3 hDl hDn HRD
  have d4 : w1.cell? ⟨w.heap.size, 4, none⟩ = some (.slice A2 n2 c2) := P1.out.row.cell 4
  have hDl := P1.out.row.lt
  have hDn : w.heap.size ≠ w1.heap.size := Nat.ne_of_lt hDl
  have HRD : Hid (Rd (w1.alloc (.cells #[] 9)) (.slice A2 n2 c2) 1 n2 (d.wishes.flatMap strE)) := Lib.hid (by have h := Lst.rd (k := 1) (enc := strE) (fun _ => rfl) (DI.out.wi.upd (P1.out.kp.trans ((Upd.refl _ w1).alloc (.cells #[] 9)))); have e := HN4.out.2.1; rw [← e] at h; exact h)
  go_upto_region 3 with (at_builtin; refine wpList_append_sl rfl (.tmp 13) (.tmp 15) _ rfl T_strs (v := .slice (some ⟨w1.heap.size, 0, none⟩) 0 0) (n := 0) (xs := []) rfl (Sl.bare w1 _ _ _ rfl) (m := n2) (news := d.wishes.flatMap strE) rfl HRD.out (strE_ones _) (by have := HN.out.2; have := HN2.out; have := HN4.out; unfold maxLen; omega) (by have := HN.out.2; have := HN2.out; have := HN4.out; omega) ?_; intro v2 u2 hA; rw [Nat.zero_add, List.nil_append] at hA; obtain ⟨X2, y2, rfl, _⟩ := hA.sl.form; have HA2 := Lib.hid (clone_et (vp' := (.slice X1 n1 y1)) (vw' := (.slice X2 n2 y2)) (vg' := (.slice A3 n3 c3)) P1.out (by omega) (Nat.le_refl _) hA (by decide) 4 rfl); clear d4; have d4 := HA2.out.2.2.2.2.cell 4; have f4 := HA2.out.2.2.2.2.frozen (j := 4) (by simp [ecells]); clear hA)
  obtain ⟨w2, hw⟩ : ∃ W, W = u2.setCell ⟨w.heap.size, 4, none⟩ (.slice X2 n2 y2) := ⟨_, rfl⟩
  have P2 : Hid (EtPre w w2 (w.heap.size + 2) w.heap.size d (.slice X1 n1 y1) (.slice X2 n2 y2) (.slice A3 n3 c3)) := Lib.hid (by rw [hw]; exact HA2.out.1)
  have UD2 : Hid (Upd (· = w.heap.size) w1 w2) := Lib.hid (by rw [hw]; exact HA2.out.2.2.2.1)
  have Q2 := Lib.hid (Q1.out.upd UD2.out (by omega))
  have S2_2 : Hid (Sl w2 (.slice X2 n2 y2) 9 1 n2 (d.wishes.flatMap strE)) := Lib.hid (by rw [hw]; exact HA2.out.2.1)
  have O2 : Hid (∀ g, Value.ownBlock (.slice X2 n2 y2) = some g → w1.heap.size ≤ g) := Lib.hid HA2.out.2.2.1
  have S1_2 := Lib.hid (S1_1.out.upd UD2.out (own_ge O1.out P0.out.row.lt))
  rw [← hw]
  clear hw d4 f4 hDl hDn HRD
  have d5 : w2.cell? ⟨w.heap.size, 5, none⟩ = some (.slice A3 n3 c3) := P2.out.row.cell 5
  have hDl := P2.out.row.lt
  have hDn : w.heap.size ≠ w2.heap.size := Nat.ne_of_lt hDl
  have HRD : Hid (Rd (w2.alloc (.cells #[] 9)) (.slice A3 n3 c3) 1 n3 (d.groups.flatMap strE)) := Lib.hid (by have h := Lst.rd (k := 1) (enc := strE) (fun _ => rfl) (DI.out.g.upd (P2.out.kp.trans ((Upd.refl _ w2).alloc (.cells #[] 9)))); have e := HN4.out.2.2; rw [← e] at h; exact h)
  go_upto_region 4 with (at_builtin; refine wpList_append_sl rfl (.tmp 18) (.tmp 20) _ rfl T_strs (v := .slice (some ⟨w2.heap.size, 0, none⟩) 0 0) (n := 0) (xs := []) rfl (Sl.bare w2 _ _ _ rfl) (m := n3) (news := d.groups.flatMap strE) rfl HRD.out (strE_ones _) (by have := HN.out.2; have := HN2.out; have := HN4.out; unfold maxLen; omega) (by have := HN.out.2; have := HN2.out; have := HN4.out; omega) ?_; intro v3 u3 hA; rw [Nat.zero_add, List.nil_append] at hA; obtain ⟨X3, y3, rfl, _⟩ := hA.sl.form; have HA3 := Lib.hid (clone_et (vp' := (.slice X1 n1 y1)) (vw' := (.slice X2 n2 y2)) (vg' := (.slice X3 n3 y3)) P2.out (by omega) (Nat.le_refl _) hA (by decide) 5 rfl); clear d5; have d5 := HA3.out.2.2.2.2.cell 5; have f5 := HA3.out.2.2.2.2.frozen (j := 5) (by simp [ecells]); clear hA)
  obtain ⟨w3, hw⟩ : ∃ W, W = u3.setCell ⟨w.heap.size, 5, none⟩ (.slice X3 n3 y3) := ⟨_, rfl⟩
  have P3 : Hid (EtPre w w3 (w.heap.size + 2) w.heap.size d (.slice X1 n1 y1) (.slice X2 n2 y2) (.slice X3 n3 y3)) := Lib.hid (by rw [hw]; exact HA3.out.1)
  have UD3 : Hid (Upd (· = w.heap.size) w2 w3) := Lib.hid (by rw [hw]; exact HA3.out.2.2.2.1)
  have Q3 := Lib.hid (Q2.out.upd UD3.out (by omega))
  have S3_3 : Hid (Sl w3 (.slice X3 n3 y3) 9 1 n3 (d.groups.flatMap strE)) := Lib.hid (by rw [hw]; exact HA3.out.2.1)
  have O3 : Hid (∀ g, Value.ownBlock (.slice X3 n3 y3) = some g → w2.heap.size ≤ g) := Lib.hid HA3.out.2.2.1
  have S1_3 := Lib.hid (S1_2.out.upd UD3.out (own_ge O1.out P0.out.row.lt))
  have S2_3 := Lib.hid (S2_2.out.upd UD3.out (own_ge O2.out P1.out.row.lt))
  rw [← hw]
  clear hw d5 f5 hDl hDn HRD
  have B4 : Hid (EtR w w3 w.heap.size d (.slice X1 n1 y1) (.slice X2 n2 y2) (.slice X3 n3 y3) (w.heap.size + 2)) := Lib.hid (by
    have h0 := P0.out.kp.size
    have z1 := Nat.le_trans h0 UD1.out.size
    have z2 := Nat.le_trans z1 UD2.out.size
    obtain ⟨e1, e2, e3⟩ := HN4.out
    refine ⟨P3.out.kp, ⟨P3.out.row, Nat.le_refl _, ?_, ?_, ?_, fun g hg => Nat.le_trans h0 (O1.out g hg), fun g hg => Nat.le_trans z1 (O2.out g hg), fun g hg => Nat.le_trans z2 (O3.out g hg), fun b hb e => ?_⟩, P3.out.res, by omega, by omega⟩
    · have h := S1_3.out; rw [e1] at h ⊢; exact h
    · have h := S2_3.out; rw [e2] at h ⊢; exact h
    · have h := S3_3.out; rw [e3] at h ⊢; exact h
    · have h1 := S2_2.out.lt hb
      have h2 := O3.out b e
      omega)
  clear P0 P1 P2 P3 Q0 Q1 Q2 UD1 UD2 UD3 S1_1 S1_2 S1_3 S2_2 S2_3 S3_3 O1 O2 O3 HA1 HA2 HA3
  have dq : w3.cell? ⟨w.heap.size + 1, 1, none⟩ = some (.int .i64 q1) := Q3.out.cell 1
  have hQl := Q3.out.lt
  have hQn : w.heap.size + 1 ≠ w3.heap.size := Nat.ne_of_lt hQl
  have hm1 : (m1 : Int) < 10 := by have := LM1.out; omega
  have hm1n : m1 < 10 := LM1.out
  go_upto_region 5 with (go_at_call 20; refine (M1.out _).mono ?_; rintro en w5 ⟨rfl, hw⟩; have KP5 : Hid (Kp w3 w5) := Lib.hid (by rw [← hw]; exact (Upd.refl _ w3).alloc _); have cN : w5.cell? ⟨w3.heap.size, m1, none⟩ = some (.int .i64 nv) := (by rw [← hw]; exact ((Row.new w3 _ _).cell m1).trans NV.out); clear hw)
  clear dq hQl hQn hm1 hm1n cN
  have Q5 := Lib.hid (Q3.out.upd KP5.out id)
  have B5 := Lib.hid (B4.out.far KP5.out)
  have dq : w5.cell? ⟨w.heap.size + 1, 1, none⟩ = some (.int .i64 q1) := Q5.out.cell 1
  have hQl := Q5.out.lt
  have hQn : w.heap.size + 1 ≠ w5.heap.size := Nat.ne_of_lt hQl
  have hm1 : (m2 : Int) < 5 := by have := LM2.out; omega
  have hm1n : m2 < 5 := LM2.out
  go_upto_region 6 with (go_at_call 20; refine (M2.out _).mono ?_; rintro en w6 ⟨rfl, hw⟩; have KP6 : Hid (Kp w5 w6) := Lib.hid (by rw [← hw]; exact (Upd.refl _ w5).alloc _); have cN : w6.cell? ⟨w5.heap.size, m2, none⟩ = some (.string ⟨wv.toArray⟩) := (by rw [← hw]; exact ((Row.new w5 _ _).cell m2).trans WV.out); clear hw)
  clear dq hQl hQn hm1 hm1n cN
  have Q6 := Lib.hid (Q5.out.upd KP6.out id)
  have B6 := Lib.hid (B5.out.far KP6.out)
  have dq : w6.cell? ⟨w.heap.size + 1, 0, none⟩ = some (.int .i64 q0) := Q6.out.cell 0
  go_upto_block 0 with (go_at_call 20; refine (M0.out _).mono ?_; rintro en wX ⟨rfl, rfl⟩)
  clear dq Q3 Q5 B4 B5
  go_cut [] from 38 to 106 (fun wx => EtI w wx (w.heap.size + 2) w.heap.size (N + 20))
  case first =>
    have hc : m0 = 0 ∨ m0 = 1 ∨ m0 = 2 ∨ m0 = 3 ∨ m0 = 4 ∨ m0 = 5 ∨ m0 = 6 ∨ m0 = 7 ∨ m0 = 8 := by have := LM0.out; omega
    have hDl := B6.out.at_.row.lt
    have hDn : w.heap.size ≠ w6.heap.size := Nat.ne_of_lt hDl
    rcases hc with rfl | rfl | rfl | rfl | rfl | rfl | rfl | rfl | rfl
    · have d0 := B6.out.at_.row.cell 0
      have f0 := B6.out.at_.row.frozen (j := 0) (by simp [ecells])
      go_wp2_with fail
      go_meet
      exact ⟨_, _, _, _, B6.out.set 0 (.int .i64 nv) (d' := { d with id := nv }) rfl rfl rfl rfl, el_set HN.out rfl rfl rfl⟩
    · have d1 := B6.out.at_.row.cell 1
      have f1 := B6.out.at_.row.frozen (j := 1) (by simp [ecells])
      go_wp2_with fail
      go_meet
      exact ⟨_, _, _, _, B6.out.set 1 (.int .i64 nv) (d' := { d with cls := nv }) rfl rfl rfl rfl, el_set HN.out rfl rfl rfl⟩
    · have d2 := B6.out.at_.row.cell 2
      have f2 := B6.out.at_.row.frozen (j := 2) (by simp [ecells])
      go_wp2_with fail
      go_meet
      exact ⟨_, _, _, _, B6.out.set 2 (.int .i64 nv) (d' := { d with fam := nv }) rfl rfl rfl rfl, el_set HN.out rfl rfl rfl⟩
    · have d3 : w6.cell? ⟨w.heap.size, 3, none⟩ = some (.slice X1 n1 y1) := B6.out.at_.row.cell 3
      go_wp2_with (at_builtin; refine wpList_append_sl rfl (.tmp 53) (.tmp 55) _ rfl T_ints (v := (.slice X1 n1 y1)) rfl (B6.out.at_.far ((Upd.refl _ w6).alloc _)).p (m := 1) (news := [.int .i64 nv]) rfl (Rd.of_new (cs := #[.int .i64 nv]) (Row.new_at _ _ _ _ rfl) rfl) (by intro u hu; simp at hu; subst hu; rfl) (by have := HN.out.2; have := HN2.out; unfold maxLen; omega) (by have := HN.out.2; have := HN2.out; omega) ?_; intro v9 w9 hA; obtain ⟨A9, c9, rfl, _⟩ := hA.sl.form; have HH := EtR.addP (xs := [nv]) B6.out ((Upd.refl _ w6).alloc _) rfl rfl hA; have B9 := Lib.hid HH.2; clear d3; have d3 := HH.1.cell 3; have f3 := HH.1.frozen (j := 3) (by simp [ecells]); clear hA HH)
      go_meet
      exact ⟨_, _, _, _, B9.out, el_p HN.out HN2.out (by have := HN.out.2; simp; omega) (mem_snoc HN.out.1.pick64 NV64.out)⟩
    · have d3 : w6.cell? ⟨w.heap.size, 3, none⟩ = some (.slice X1 n1 y1) := B6.out.at_.row.cell 3
      by_cases hz : n1 = 0
      · subst hz
        go_wp2_with fail
        go_meet
        exact ⟨_, _, _, _, B6.out, HN.out.mono (by omega)⟩
      · have hn0 : 0 < n1 := by omega
        have hn0i : (0 : Int) < (n1 : Int) := by omega
        have hn1 : n1 ≤ 1000000 := by have := HN4.out.1; have := HN.out.1.picks; omega
        obtain ⟨k, hk, hK⟩ := mod_nat q2 n1 hn0 (by omega) HQ2.out
        have KM := Lib.hid hK
        have HK := Lib.hid hk
        have HNZ := Lib.hid hz
        have hki : (k : Int) < (n1 : Int) := by omega
        have hki0 : (0 : Int) ≤ (k : Int) := by omega
        clear hK hz
        have dq : w6.cell? ⟨w.heap.size + 1, 2, none⟩ = some (.int .i64 q2) := Q6.out.cell 2
        obtain ⟨b, off, e1⟩ : ∃ b off, X1 = some ⟨b, off, none⟩ := by
          have hp := B6.out.at_.p
          rcases hp.2 with ⟨e, h0⟩ | ⟨g, off, cap, cs, e, _⟩
          · have := HN4.out.1; omega
          · cases e; exact ⟨_, _, rfl⟩
        subst e1
        have HC : Hid ((∃ u, w6.cell? ⟨b, off + k, none⟩ = some u) ∧ w6.frozen? ⟨b, off + k, none⟩ = false) := Lib.hid (by
          have hp := B6.out.at_.p
          rw [← HN4.out.1] at hp
          obtain ⟨h1, h2, _⟩ := hp.cell1 HK.out
          exact ⟨h1, h2⟩)
        obtain ⟨⟨u, hu⟩, hfz⟩ := HC.out
        go_upto_region 17 with fail
        go_region_law ((go_simp; go_at_call 20; refine (KM.out _).mono ?_; rintro en wX ⟨rfl, rfl⟩))
        all_goals (go_wp2_with fail; go_meet)
        all_goals exact ⟨_, _, _, _, (B6.out.far ((Upd.refl _ w6).drew)).pick HN4.out.1 HK.out nv, el_p HN.out HN2.out (by have := HN.out.2.1; simp; omega) (mem_set HN.out.1.pick64 NV64.out k)⟩
    · have d4 : w6.cell? ⟨w.heap.size, 4, none⟩ = some (.slice X2 n2 y2) := B6.out.at_.row.cell 4
      go_wp2_with (at_builtin; refine wpList_append_sl rfl (.tmp 77) (.tmp 79) _ rfl T_strs (v := (.slice X2 n2 y2)) rfl (B6.out.at_.far ((Upd.refl _ w6).alloc _)).wi (m := 1) (news := [.string ⟨wv.toArray⟩]) rfl (Rd.of_new (cs := #[.string ⟨wv.toArray⟩]) (Row.new_at _ _ _ _ rfl) rfl) (by intro u hu; simp at hu; subst hu; rfl) (by have := HN.out.2; have := HN2.out; unfold maxLen; omega) (by have := HN.out.2; have := HN2.out; omega) ?_; intro v9 w9 hA; obtain ⟨A9, c9, rfl, _⟩ := hA.sl.form; have HH := EtR.addW (xs := [wv]) B6.out ((Upd.refl _ w6).alloc _) rfl rfl hA; have B9 := Lib.hid HH.2; clear d4; have d4 := HH.1.cell 4; have f4 := HH.1.frozen (j := 4) (by simp [ecells]); clear hA HH)
      go_meet
      exact ⟨_, _, _, _, B9.out, el_wi HN.out HN2.out (by have := HN.out.2; simp; omega) (mem_snoc HN.out.1.wish (small_ok WVL.out))⟩
    · have d5 : w6.cell? ⟨w.heap.size, 5, none⟩ = some (.slice X3 n3 y3) := B6.out.at_.row.cell 5
      go_wp2_with (at_builtin; refine wpList_append_sl rfl (.tmp 85) (.tmp 87) _ rfl T_strs (v := (.slice X3 n3 y3)) rfl (B6.out.at_.far ((Upd.refl _ w6).alloc _)).g (m := 1) (news := [.string ⟨wv.toArray⟩]) rfl (Rd.of_new (cs := #[.string ⟨wv.toArray⟩]) (Row.new_at _ _ _ _ rfl) rfl) (by intro u hu; simp at hu; subst hu; rfl) (by have := HN.out.2; have := HN2.out; unfold maxLen; omega) (by have := HN.out.2; have := HN2.out; omega) ?_; intro v9 w9 hA; obtain ⟨A9, c9, rfl, _⟩ := hA.sl.form; have HH := EtR.addG (xs := [wv]) B6.out ((Upd.refl _ w6).alloc _) rfl rfl hA; have B9 := Lib.hid HH.2; clear d5; have d5 := HH.1.cell 5; have f5 := HH.1.frozen (j := 5) (by simp [ecells]); clear hA HH)
      go_meet
      exact ⟨_, _, _, _, B9.out, el_g HN.out HN2.out (by have := HN.out.2; simp; omega) (mem_snoc HN.out.1.group (small_ok WVL.out))⟩
    · go_wp2_with fail
      go_loopw [7] (fun v wr => ∃ (i : Nat), v = .int .i64 i ∧ i ≤ 11 ∧ ∃ (d : EntL) (vp vw vg : Value), EtR w wr w.heap.size d vp vw vg (w.heap.size + 2) ∧ ELens (N + i) d) (fun v _ => 11 - (intOf v).toNat)
      case atStart => exact ⟨0, rfl, by omega, _, _, _, _, B6.out, HN.out⟩
      case round =>
        obtain ⟨i, rfl, hi, d', vp, vw, vg, hm, hS⟩ := hrel
        have MR := Lib.hid hm
        have HS := Lib.hid hS
        clear hm hS
        have hi0 : (0 : Int) ≤ i := by omega
        have hi9 : (i : Int) ≤ 11 := by omega
        have HI : Hid (i ≤ 11) := Lib.hid (by omega)
        by_cases hlt : i < 11
        · have hlti : (i : Int) < 11 := by omega
          obtain ⟨A5, i5, c5, e5⟩ : ∃ A n c, vg = .slice A n c := by obtain ⟨A, c, e, _⟩ := MR.out.at_.g.form; exact ⟨_, _, _, e⟩
          subst e5
          obtain ⟨bI, hbI⟩ : ∃ b : UInt8, (b.toNat : Int) = 97 + (i : Int) := ⟨UInt8.ofNat (97 + i), by rw [UInt8.toNat_ofNat']; omega⟩
          have hwrap : IntKind.u8.wrap (97 + (i : Int)) = (bI.toNat : Int) := by rw [hbI]; apply IntWalk.u8_in <;> omega
          clear hbI
          have d5 : wr.cell? ⟨w.heap.size, 5, none⟩ = some (.slice A5 i5 c5) := MR.out.at_.row.cell 5
          have hDl := MR.out.at_.row.lt
          have hDn : w.heap.size ≠ wr.heap.size := Nat.ne_of_lt hDl
          obtain ⟨nm, hnm⟩ : ∃ l : List UInt8, l = [103, bI] := ⟨_, rfl⟩
          have HNM : Hid (nm.length ≤ 31) := Lib.hid (by rw [hnm]; simp)
          have hcat : (ByteArray.mk #[103] ++ ByteArray.mk #[bI]) = ⟨nm.toArray⟩ := by rw [hnm]; exact str_append [103] [bI]
          clear hnm
          go_wp2_with (first
            | (show wpList _ _ _ (⟨some 102, _, _, _, _, _⟩ :: _) _ _; refine wpList_string_rd rfl 75 9 5 (.tmp 101) rfl Try.underlying75 Try.underlying5 Try.underlying9 (y := .slice (some ⟨wr.heap.size, 0, none⟩) 1 1) (n := 1) (bs := [bI]) rfl (Rd.of_new (cs := #[.int .u8 bI.toNat]) (Row.new_at _ _ _ _ rfl) rfl) ?_)
            | (at_builtin; refine wpList_append_sl rfl (.tmp 97) (.tmp 104) _ rfl T_strs (v := (.slice A5 i5 c5)) rfl (MR.out.at_.far (((Upd.refl _ wr).alloc _).alloc _)).g (m := 1) (news := [.string ⟨nm.toArray⟩]) rfl (Rd.of_new (cs := #[.string ⟨nm.toArray⟩]) (Row.new_at _ _ _ _ (by simp)) rfl) (by intro u hu; simp at hu; subst hu; rfl) (by have := HS.out.2; have := HN2.out; have := HI.out; unfold maxLen; omega) (by have := HS.out.2; have := HN2.out; have := HI.out; omega) ?_; intro v9 w9 hA; obtain ⟨A9, c9, rfl, _⟩ := hA.sl.form; have HH := EtR.addG (xs := [nm]) MR.out (((Upd.refl _ wr).alloc _).alloc _) rfl rfl hA; have B9 := Lib.hid HH.2; clear d5; have d5 := HH.1.cell 5; have f5 := HH.1.frozen (j := 5) (by simp [ecells]); clear hA HH))
          go_roundw
          all_goals (first
            | exact ⟨i + 1, by go_num, by omega, _, _, _, _, B9.out, el1_g HS.out (by have := HN2.out; omega) (small_ok HNM.out)⟩
            | ((repeat apply Exists.intro); exact ⟨⟨i + 1, by go_num, by omega, _, _, _, _, B9.out, el1_g HS.out (by have := HN2.out; omega) (small_ok HNM.out)⟩, rfl⟩)
            | (simp [intOf]; omega))
        · have hlti : ¬ (i : Int) < 11 := by omega
          go_wp2_with fail
          go_meet
          exact ⟨_, _, _, _, MR.out, HS.out.mono (by omega)⟩
    · go_wp2_with fail
      go_meet
      exact ⟨_, _, _, _, B6.out, HN.out.mono (by omega)⟩
  case rest =>
    obtain ⟨d', vp, vw, vg, hb, hs⟩ := hcut
    have BB := Lib.hid hb
    have SS := Lib.hid hs
    clear hb hs
    obtain ⟨Zp, zp, bp, ep⟩ : ∃ A n c, vp = .slice A n c := by obtain ⟨A, c, e, _⟩ := BB.out.at_.p.form; exact ⟨_, _, _, e⟩
    subst ep
    obtain ⟨Zwi, zwi, bwi, ewi⟩ : ∃ A n c, vw = .slice A n c := by obtain ⟨A, c, e, _⟩ := BB.out.at_.wi.form; exact ⟨_, _, _, e⟩
    subst ewi
    obtain ⟨Zg, zg, bg, eg⟩ : ∃ A n c, vg = .slice A n c := by obtain ⟨A, c, e, _⟩ := BB.out.at_.g.form; exact ⟨_, _, _, e⟩
    subst eg
    have hagg := Try.underlying46
    go_wp2_with (first
      | (show wpList _ _ _ (⟨some 107, _, _, _, _, _⟩ :: _) _ _; refine wpList_load_mid rfl 46 (.tmp 2) rfl (w.heap.size) 0 rfl (ecells d' (.slice Zp zp bp) (.slice Zwi zwi bwi) (.slice Zg zg bg)) _ BB.out.at_.row.rangeAt hagg rfl (by kernel_rfl) ?_)
      | (show wpList _ _ _ (⟨none, .store _ _ _, _, _, _, _⟩ :: _) _ _; refine wpList_store_all rfl 46 (.tmp 4) (.tmp 107) rfl (ecells d' (.slice Zp zp bp) (.slice Zwi zwi bwi) (.slice Zg zg bg)) rfl rfl BB.out.res rfl (by kernel_rfl) rfl ?_; intro wz hrz huz; have RZ := Lib.hid hrz; have UZ := Lib.hid huz; clear hrz huz))
    refine bodyPost_ret (results_row (g := w.heap.size + 2) (cs := ecells d' (.slice Zp zp bp) (.slice Zwi zwi bwi) (.slice Zg zg bg)) rfl rfl RZ.out hagg rfl (by kernel_rfl)) rfl ?_
    exact odd_done BB.out SS.out UZ.out
end Go.Proofs.Ytaejnhgnacgheaa
