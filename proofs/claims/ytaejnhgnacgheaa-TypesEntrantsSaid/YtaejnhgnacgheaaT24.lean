/- the maker of rules: what Draw leaves; the made rules are permitted. -/
import Derived.Test.YtaejnhgnacgheaaT20
import Derived.Test.YtaejnhgnacgheaaT23
namespace Go.Proofs.Ytaejnhgnacgheaa
set_option linter.unusedVariables false
set_option linter.unusedSimpArgs false
open Go.RowKit

/-- what Draw leaves: permitted rules -/
def DrawP (w : World) (e : Ending) (w' : World) : Prop :=
  ∃ (d : DrawL) (vt vp vq vb : Value), e = .returned (dval d vt vp vq vb) ∧ DrawIn w' d vt vp vq vb ∧ Good d ∧ Kp w w'

section
variable {w W W' : World} {R M D : Nat} {vl : Value} {k : Nat} {d : DrawL} {vt vp vq vb : Value}
theorem mk_done (h : MkAt w W R M D vl k d vt vp vq vb) (hg : Good d ∧ DrawOk d) (hu : Upd (· = R) W W') : DrawP w (.returned (dval d vt vp vq vb)) W' := by
  refine ⟨d, vt, vp, vq, vb, rfl, ⟨?_, ?_, ?_, ?_, hg.2⟩, hg.1, Upd.trans h.kp hu (fun k hk e => by have := h.hR; omega)⟩
  · exact Sl.lst (fun _ => rfl) (h.t.upd hu (fun g hg e => h.t.ne_row h.res (by decide) (by rw [hg, e])))
  · exact Sl.lst (fun _ => rfl) (h.p.upd hu (fun g hg e => h.p.ne_row h.res (by decide) (by rw [hg, e])))
  · exact Sl.lst (fun _ => rfl) (h.q.upd hu (fun g hg e => h.q.ne_row h.res (by decide) (by rw [hg, e])))
  · exact Sl.lst (fun _ => rfl) (h.b.upd hu (fun g hg e => h.b.ne_row h.res (by decide) (by rw [hg, e])))
/-- a block of its own has been written -/
theorem MkAt.off (h : MkAt w W R M D vl k d vt vp vq vb) {Q : Nat} (hQ : w.heap.size ≤ Q) (hM : M ≠ Q) (hD : D ≠ Q) (hR : R ≠ Q)
    (ht : ∀ g, vt.ownBlock = some g → g ≠ Q) (hp : ∀ g, vp.ownBlock = some g → g ≠ Q) (hq : ∀ g, vq.ownBlock = some g → g ≠ Q) (hb : ∀ g, vb.ownBlock = some g → g ≠ Q) (hu : Upd (· = Q) W W') :
    MkAt w W' R M D vl k d vt vp vq vb :=
  ⟨Upd.trans h.kp hu (fun k hk e => by omega), h.num.upd hu hM, h.row.upd hu hD, h.res.upd hu hR, h.ne, h.hR, h.hM, h.hD, h.t.upd hu ht, h.p.upd hu hp, h.q.upd hu hq, h.b.upd hu hb, h.ht, h.hp, h.hq, h.hb⟩
/-- behind the blocks of the world before -/
theorem MkAt.under (h : MkAt w W R M D vl k d vt vp vq vb) {Q : Nat} (hQ : W.heap.size ≤ Q) : w.heap.size ≤ Q ∧ M ≠ Q ∧ D ≠ Q ∧ R ≠ Q ∧
    (∀ g, vt.ownBlock = some g → g ≠ Q) ∧ (∀ g, vp.ownBlock = some g → g ≠ Q) ∧ (∀ g, vq.ownBlock = some g → g ≠ Q) ∧ (∀ g, vb.ownBlock = some g → g ≠ Q) := by
  have h1 := h.kp.size
  have h2 := h.num.lt
  have h3 := h.row.lt
  have h4 := h.res.lt
  exact ⟨by omega, by omega, by omega, by omega, fun g e => by have := h.t.lt e; omega, fun g e => by have := h.p.lt e; omega, fun g e => by have := h.q.lt e; omega, fun g e => by have := h.b.lt e; omega⟩
end

/-- beside it, a quota in a block of its own -/
structure QAt (w W : World) (R M D : Nat) (vl : Value) (k : Nat) (d : DrawL) (vt vp vq vb : Value) (Q : Nat) (nm : List UInt8) (lo hi : Int) : Prop where
  ma : MkAt w W R M D vl k d vt vp vq vb
  row : Row W Q 67 [.string ⟨nm.toArray⟩, .int .i64 lo, .int .i64 hi]
  un : w.heap.size ≤ Q ∧ M ≠ Q ∧ D ≠ Q ∧ R ≠ Q ∧
    (∀ g, vt.ownBlock = some g → g ≠ Q) ∧ (∀ g, vp.ownBlock = some g → g ≠ Q) ∧ (∀ g, vq.ownBlock = some g → g ≠ Q) ∧ (∀ g, vb.ownBlock = some g → g ≠ Q)
section
variable {w W W' : World} {R M D : Nat} {vl : Value} {k : Nat} {d : DrawL} {vt vp vq vb : Value} {Q : Nat} {nm : List UInt8} {lo hi : Int}
theorem QAt.next (h : QAt w W R M D vl k d vt vp vq vb Q nm lo hi) {k' : Nat} (hr : Row W' M 72 [vl, .int .i64 k']) (hu : Upd (· = M) W W') : QAt w W' R M D vl k' d vt vp vq vb Q nm lo hi :=
  ⟨h.ma.next hr hu, h.row.upd hu (fun e => h.un.2.1 e.symm), h.un⟩
theorem QAt.set (h : QAt w W R M D vl k d vt vp vq vb Q nm lo hi) (x : Int) : QAt w (W.setCell ⟨Q, 1, none⟩ (.int .i64 x)) R M D vl k d vt vp vq vb Q nm x hi := by
  have hu : Upd (· = Q) W (W.setCell ⟨Q, 1, none⟩ (.int .i64 x)) := (Upd.refl (· = Q) W).setCell (fun _ => rfl) _
  obtain ⟨u1, u2, u3, u4, u5, u6, u7, u8⟩ := h.un
  exact ⟨h.ma.off u1 u2 u3 u4 u5 u6 u7 u8 hu, h.row.set 1 _, h.un⟩
/-- made last -/
theorem QAt.last (h : MkAt w W R M D vl k d vt vp vq vb) {Q : Nat} (hQ : Q = W.heap.size) : QAt w (W.alloc (.cells #[.string ⟨nm.toArray⟩, .int .i64 lo, .int .i64 hi] 67)) R M D vl k d vt vp vq vb Q nm lo hi := by
  subst hQ
  exact ⟨h.far ((Upd.refl _ W).alloc _), Row.new W _ _, h.under (Nat.le_refl _)⟩
/-- made before: its cells are stored -/
theorem QAt.cells {W0 : World} {k0 : Nat} {a b c : Value} (h : MkAt w W R M D vl k d vt vp vq vb) (h0 : MkAt w W0 R M D vl k0 d vt vp vq vb) (hr : Row W Q 67 [a, b, c]) (hQ : W0.heap.size ≤ Q) :
    QAt w (((W.setCell ⟨Q, 0, none⟩ (.string ⟨nm.toArray⟩)).setCell ⟨Q, 1, none⟩ (.int .i64 lo)).setCell ⟨Q, 2, none⟩ (.int .i64 hi)) R M D vl k d vt vp vq vb Q nm lo hi := by
  have hu := (((Upd.refl (· = Q) W).setCell (p := ⟨Q, 0, none⟩) (fun _ => rfl) (.string ⟨nm.toArray⟩)).setCell (p := ⟨Q, 1, none⟩) (fun _ => rfl) (.int .i64 lo)).setCell (p := ⟨Q, 2, none⟩) (fun _ => rfl) (.int .i64 hi)
  obtain ⟨u1, u2, u3, u4, u5, u6, u7, u8⟩ := h0.under hQ
  exact ⟨h.off u1 u2 u3 u4 u5 u6 u7 u8 hu, ((hr.set 0 _).set 1 _).set 2 _, h0.under hQ⟩
end
theorem word_len (r : Int) : (wordL r).length = 1 := rfl
theorem in64_small {n : Int} (h1 : -1000000000 ≤ n) (h2 : n ≤ 1000000000) : in64 n := by unfold in64; omega
theorem bar_ok {B : List Int} (hB : B.length ≤ 2 ∧ ∀ i, ∀ hi : i < B.length, 5 * (i : Int) ≤ B[i] ∧ B[i] < 5 * (i : Int) + 4) : ∀ b, b ∈ B → in64 b := by
  intro b hb
  obtain ⟨j, hj, rfl⟩ := List.mem_iff_getElem.1 hb
  have := hB.2 j hj
  exact in64_small (by omega) (by omega)
theorem low_ok {B : List Int} (hB : B.length ≤ 2 ∧ ∀ i, ∀ hi : i < B.length, 5 * (i : Int) ≤ B[i] ∧ B[i] < 5 * (i : Int) + 4) : ∀ b, b ∈ B → b < 100 := by
  intro b hb
  obtain ⟨j, hj, rfl⟩ := List.mem_iff_getElem.1 hb
  have := hB.2 j hj
  omega
theorem tm_ok {T : List (Int × Int)} {pick n : Int} (hl : T.length ≤ 3) (hp : 1 ≤ pick ∧ pick ≤ 4 ∧ pick ≤ n) (hT : ∀ j, ∀ hj : j < T.length, T[j].1 = pick - j ∧ 1 ≤ T[j].2 ∧ T[j].2 ≤ 33) : ∀ t, t ∈ T → in64 t.1 := by
  intro t ht
  obtain ⟨j, hj, rfl⟩ := List.mem_iff_getElem.1 ht
  have := (hT j hj).1
  exact in64_small (by rw [this]; omega) (by rw [this]; omega)
theorem nm_ok {α : Type} {T : List (List UInt8 × α)} (hT : ∀ j : Nat, ∀ hj : j < T.length, T[j].1 = wordL j) : ∀ t, t ∈ T → okS t.1 := by
  intro t ht
  obtain ⟨j, hj, rfl⟩ := List.mem_iff_getElem.1 ht
  show T[j].1.length ≤ maxLen
  rw [hT j hj, word_len]
  unfold maxLen; decide
theorem good1 {r1 r3 rd pr pool pick : Int} {T : List (Int × Int)} {roll : Bool} {B : List Int} (h3 : r3 = 0) (hr : 1 ≤ rd ∧ rd ≤ 9) (hp : 0 ≤ pr ∧ pr ≤ 8) (hpool : 2 ≤ pool ∧ pool ≤ 7) (hpick : 1 ≤ pick ∧ pick ≤ 4 ∧ pick ≤ pool)
    (hB : B.length ≤ 2 ∧ ∀ i, ∀ hi : i < B.length, 5 * (i : Int) ≤ B[i] ∧ B[i] < 5 * (i : Int) + 4)
    (hT1 : 1 ≤ T.length ∧ T.length ≤ 3) (hT2 : (T.length : Int) ≤ pick + 1) (hT : ∀ j, ∀ hj : j < T.length, T[j].1 = pick - j ∧ 1 ≤ T[j].2 ∧ T[j].2 ≤ 33) {d : DrawL}
    (hd : d = { name := 120 :: wordL r1, kind := 1 + r3, round := rd, price := pr, pool := pool, pick := pick, tiers := T, roll := roll, places := [], cls := 0, size := 0, quotas := [], barred := B }) : Good d ∧ DrawOk d := by
  subst h3 hd
  refine ⟨⟨name_good r1, .inl rfl, hr, hp, ⟨hB.1, barred_good hB.2⟩, fun _ => ⟨⟨hpool.1, hpool.2, hpick.1, hpick.2.1, hpick.2.2⟩, tiers_good hT1 hT2 hT, rfl, rfl, rfl, rfl⟩, fun h => absurd h (by simp), fun h => absurd h (by simp), low_ok hB⟩, ?_⟩
  refine ⟨by show 2 ≤ maxLen; unfold maxLen; decide, by show T.length ≤ _; omega, by simp, by simp, by show B.length ≤ _; omega, ?_, by simp, by simp, ?_⟩
  · exact tm_ok hT1.2 hpick hT
  · exact bar_ok hB
theorem good2 {r1 r3 rd pr cls : Int} {T : List (List UInt8 × Int)} {B : List Int} (h3 : r3 = 1) (hr : 1 ≤ rd ∧ rd ≤ 9) (hp : 0 ≤ pr ∧ pr ≤ 8) (hc : 0 ≤ cls ∧ cls ≤ 2)
    (hB : B.length ≤ 2 ∧ ∀ i, ∀ hi : i < B.length, 5 * (i : Int) ≤ B[i] ∧ B[i] < 5 * (i : Int) + 4)
    (hT1 : 1 ≤ T.length ∧ T.length ≤ 3) (hT : ∀ j, ∀ hj : j < T.length, T[j].1 = wordL j ∧ 1 ≤ T[j].2 ∧ T[j].2 ≤ 3) {d : DrawL}
    (hd : d = { name := 120 :: wordL r1, kind := 1 + r3, round := rd, price := pr, pool := 0, pick := 0, tiers := [], roll := false, places := T, cls := cls, size := 0, quotas := [], barred := B }) : Good d ∧ DrawOk d := by
  subst h3 hd
  refine ⟨⟨name_good r1, .inr (.inl rfl), hr, hp, ⟨hB.1, barred_good hB.2⟩, fun h => absurd h (by simp), fun _ => ⟨places_good hT1 hT, hc, rfl, rfl, rfl, rfl, rfl, rfl⟩, fun h => absurd h (by simp), low_ok hB⟩, ?_⟩
  refine ⟨by show 2 ≤ maxLen; unfold maxLen; decide, by simp, by show T.length ≤ _; omega, by simp, by show B.length ≤ _; omega, by simp, ?_, by simp, ?_⟩
  · exact nm_ok (fun j hj => (hT j hj).1)
  · exact bar_ok hB
theorem good3 {r1 r3 rd pr size : Int} {T : List (List UInt8 × Int × Int)} {B : List Int} (h3 : r3 = 2) (hr : 1 ≤ rd ∧ rd ≤ 9) (hp : 0 ≤ pr ∧ pr ≤ 8) (hc : 1 ≤ size ∧ size ≤ 3)
    (hB : B.length ≤ 2 ∧ ∀ i, ∀ hi : i < B.length, 5 * (i : Int) ≤ B[i] ∧ B[i] < 5 * (i : Int) + 4)
    (hT1 : T.length ≤ 2) (hT : ∀ j, ∀ hj : j < T.length, T[j].1 = wordL j ∧ 0 ≤ T[j].2.1 ∧ T[j].2.1 ≤ T[j].2.2 ∧ T[j].2.2 ≤ size) {d : DrawL}
    (hd : d = { name := 120 :: wordL r1, kind := 1 + r3, round := rd, price := pr, pool := 0, pick := 0, tiers := [], roll := false, places := [], cls := 0, size := size, quotas := T, barred := B }) : Good d ∧ DrawOk d := by
  subst h3 hd
  refine ⟨⟨name_good r1, .inr (.inr rfl), hr, hp, ⟨hB.1, barred_good hB.2⟩, fun h => absurd h (by simp), fun h => absurd h (by simp), fun _ => ⟨hc, quotas_good hT1 hT, rfl, rfl, rfl, rfl, rfl, rfl⟩, low_ok hB⟩, ?_⟩
  refine ⟨by show 2 ≤ maxLen; unfold maxLen; decide, by simp, by simp, by show T.length ≤ _; omega, by show B.length ≤ _; omega, by simp, by simp, ?_, ?_⟩
  · exact nm_ok (fun j hj => (hT j hj).1)
  · exact bar_ok hB
theorem growAny {α : Type} {p : Nat → α → Prop} {B : List α} {i : Nat} {x : α} (h : ∀ j, ∀ hj : j < B.length, p j B[j]) (hi : B.length = i) (hx : p i x) : ∀ j, ∀ hj : j < (B ++ [x]).length, p j (B ++ [x])[j] := by
  intro j hj
  by_cases hl : j < B.length
  · rw [List.getElem_append_left hl]; exact h j hl
  · have e : j = i := by simp at hj; omega
    subst e
    rw [List.getElem_append_right (by omega)]
    simpa using hx
end Go.Proofs.Ytaejnhgnacgheaa
