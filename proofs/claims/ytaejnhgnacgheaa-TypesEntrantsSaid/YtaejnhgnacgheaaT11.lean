/- types: picks, wishes, groups (printed by gen-t11.py). -/
import Derived.Test.YtaejnhgnacgheaaT10
import Derived.Test.YtaejnhgnacgheaaAny
import Derived.Deep.CutRange
namespace Go.Proofs.Ytaejnhgnacgheaa
set_option linter.unusedVariables false
set_option linter.unusedSimpArgs false
open Go.RowKit

structure EntL where
  id : Int
  cls : Int
  fam : Int
  picks : List Int
  wishes : List (List UInt8)
  groups : List (List UInt8)
  deriving Inhabited
abbrev ecells (e : EntL) (vp vw vg : Value) : List Value := [.int .i64 e.id, .int .i64 e.cls, .int .i64 e.fam, vp, vw, vg]
abbrev evalE (e : EntL) (vp vw vg : Value) : Value := .agg #[.int .i64 e.id, .int .i64 e.cls, .int .i64 e.fam, vp, vw, vg]
structure EntOk (e : EntL) : Prop where
  picks : e.picks.length ≤ 1000000
  wishes : e.wishes.length ≤ 1000000
  groups : e.groups.length ≤ 1000000
  pick64 : ∀ x, x ∈ e.picks → in64 x
  wish : ∀ x, x ∈ e.wishes → okS x
  group : ∀ x, x ∈ e.groups → okS x
structure EntIn (w : World) (e : EntL) (vp vw vg : Value) : Prop where
  p : Nums w vp e.picks
  wi : Strs w vw e.wishes
  g : Strs w vg e.groups
  ok : EntOk e
theorem EntIn.kp {w w' : World} {e : EntL} {vp vw vg : Value} (h : EntIn w e vp vw vg) (hu : Kp w w') : EntIn w' e vp vw vg := ⟨h.p.upd hu, h.wi.upd hu, h.g.upd hu, h.ok⟩

def picksL (d : DrawL) (e : EntL) : Int :=
  unl (((decide ((e.picks.length : Int) = d.pick) && e.picks.all fun n => inR n 1 d.pool) && sortedB e.picks) && !rep e.picks) 15
def knownL (d : DrawL) (s : List UInt8) : Bool := d.places.any fun p => decide (p.1 = s)
def wishesL (d : DrawL) (e : EntL) : Int :=
  firstL [unl (inR e.cls 0 d.cls && inR e.fam 0 1000000000) 15, unl (decide ((e.wishes.length : Int) ≤ d.places.length)) 2, unl (e.wishes.all (knownL d)) 13, unl (!rep e.wishes) 33]
def groupsL (e : EntL) : Int :=
  firstL [unl (decide ((e.groups.length : Int) ≤ 12)) 2, unl (e.groups.all isWord) 13, unl (!rep e.groups) 33]

theorem picks1_ok (w : World) (L : List Int) (B : Nat) (pool : Int) (hc : w.cell? ⟨B, 4, none⟩ = some (.int .i64 pool)) : PredOk Try.prog 66 #[.pointer (some ⟨B, 0, none⟩)] valI (fun n => inR n 1 pool) L w := fun W x hx hb => by
  have hc2 := hb.cellAt hc
  clear hb hc hx
  show Calls Try.prog 66 #[.int .i64 x, .pointer (some ⟨B, 0, none⟩)] W _
  go_enter Try.func66, Try.ntmps66
  go_wp2_with (show Calls _ _ _ _ _; go_must (refine (within_any _ x 1 pool).mono ?_); rintro e w1 ⟨rfl, rfl⟩)
  go_ret
  exact ⟨rfl, Upd.refl _ W⟩
theorem wishes11_ok (w : World) (L : List (List UInt8 × Int)) (B : Nat) (s : List UInt8) (hc : w.cell? ⟨B, 0, none⟩ = some (.string ⟨s.toArray⟩)) : PredOk Try.prog 70 #[.pointer (some ⟨B, 0, none⟩)] valP (fun p => decide (p.1 = s)) L w := fun W x hx hb => by
  have hc2 := hb.cellAt hc
  have hB := World.block_lt_of_cell? _ _ hc2
  have hB2 : B ≠ W.heap.size := by simp only at hB; omega
  clear hb hc hx
  show Calls Try.prog 70 #[.agg #[.string ⟨x.1.toArray⟩, .int .i64 x.2], .pointer (some ⟨B, 0, none⟩)] W _
  by_cases h : x.1 = s
  · have hb : (x.1 == s) = true := by simpa using h
    go_enter Try.func70, Try.ntmps70
    go_wp2
    go_ret
    exact ⟨by simp [h], (Upd.refl _ W).alloc _⟩
  · have hb : (x.1 == s) = false := by simpa using h
    go_enter Try.func70, Try.ntmps70
    go_wp2
    go_ret
    exact ⟨by simp [h], (Upd.refl _ W).alloc _⟩
theorem wishes1_ok (w : World) (d : DrawL) (L : List (List UInt8)) (B : Nat) (vp : Value) (hp : Places w vp d.places) (hl : d.places.length ≤ 1000000) (hc : w.cell? ⟨B, 8, none⟩ = some vp) : PredOk Try.prog 68 #[.pointer (some ⟨B, 0, none⟩)] valS (knownL d) L w := fun W x hx hb => by
  have hc2 := hb.cellAt hc
  have hB := World.block_lt_of_cell? _ _ hc2
  have hB2 : B ≠ W.heap.size := by simp only at hB; omega
  have hU : Kp W (W.alloc (.cells #[.string ⟨x.toArray⟩] 9)) := (Upd.refl _ W).alloc _
  have hcon := hasP_any (W.alloc (.cells #[.string ⟨x.toArray⟩] 9)) vp d.places (hp.upd (hb.trans hU)) (by omega) 70 #[.pointer (some ⟨W.heap.size, 0, none⟩)] (fun p => decide (p.1 = x)) (wishes11_ok _ _ _ _ (by simp)) (Go.Proofs.enters_of Try.func70 (by kernel_rfl) rfl)
  have HU := Lib.hid hU
  have HC := Lib.hid hcon
  clear hb hc hx hU hcon hp
  show Calls Try.prog 68 #[.string ⟨x.toArray⟩, .pointer (some ⟨B, 0, none⟩)] W _
  go_enter Try.func68, Try.ntmps68
  go_wp2_with (show Calls _ _ _ _ _; refine HC.out.mono ?_; rintro e w1 ⟨rfl, hb⟩; have HB := Lib.hid hb; clear hb)
  go_ret
  exact ⟨rfl, HU.out.trans HB.out⟩

theorem three_len : 3 ≤ maxLen := by unfold maxLen; omega

set_option maxHeartbeats 2000000 in
theorem groups_any (w : World) (d : DrawL) (vt vp vq vb : Value) (h : DrawIn w d vt vp vq vb) (e : EntL) (xp xw xg : Value) (he : EntIn w e xp xw xg) : Calls Try.prog 39 #[dval d vt vp vq vb, evalE e xp xw xg] w (Gives w (.int .i64 (groupsL e))) := by
  obtain ⟨A, c, rfl, hA⟩ := he.g
  obtain ⟨n, hn⟩ : ∃ n, n = e.groups.length := ⟨_, rfl⟩
  obtain ⟨bw, hbw⟩ : ∃ b, b = e.groups.all isWord := ⟨_, rfl⟩
  obtain ⟨br, hbr⟩ : ∃ b, b = rep e.groups := ⟨_, rfl⟩
  have hr : groupsL e = firstL [unl (decide ((n : Int) ≤ 12)) 2, unl bw 13, unl (!br) 33] := by rw [hn, hbw, hbr]; rfl
  rw [hr]
  have hg := he.g
  have hok := he.ok
  rw [← hn] at hg ⊢
  have HG := Lib.hid hg
  have HOK := Lib.hid hok
  have HN := Lib.hid hn
  have HBW := Lib.hid hbw
  have HBR := Lib.hid hbr
  clear h he hA hg hok hr hbw hbr hn
  have hU : Kp w ((w.alloc (.cells (dcells d vt vp vq vb).toArray 30)).alloc (.cells (ecells e xp xw (.slice A n c)).toArray 46)) := ((Upd.refl _ w).alloc _).alloc _
  obtain ⟨w1, hw1⟩ : ∃ w1, w1 = ((w.alloc (.cells (dcells d vt vp vq vb).toArray 30)).alloc (.cells (ecells e xp xw (.slice A n c)).toArray 46)) := ⟨_, rfl⟩
  rw [← hw1] at hU
  have HU1 := Lib.hid hU
  have c5 : w1.cell? ⟨w.heap.size + 1, 5, none⟩ = some (.slice A n c) := by rw [hw1]; simp
  clear hU
  simp only [dcells, ecells] at hw1
  go_enter Try.func39, Try.ntmps39
  go_wp2_with (fail)
  rw [← hw1]
  clear hw1
  go_region_held3 (fun w' => w'.cell? ⟨w.heap.size + 1, 5, none⟩ = some (.slice A n c)) (first | exact c5 | go_keep) ((first
    | (go_at_call 41; refine (unless_any _ _ _).mono ?_; rintro en wa ⟨rfl, rfl⟩)
    | (go_at_call 71; have hc := allS_any w1.drew (.slice A n c) e.groups (HG.out.upd (Kp.drewR HU1.out)) (by have := HOK.out.groups; omega) _ _ isWord (word_ok _ _ HOK.out.group) enters_word; rw [← HBW.out] at hc; refine hc.mono ?_; clear hc; rintro en w2 ⟨rfl, hb0⟩; have hb : Kp w1 w2 := (Kp.trans (Kp.drewR (Upd.refl _ w1)) hb0); clear hb0; have HB2 : Hid (Kp w w2) := Lib.hid (HU1.out.trans hb); have c5 := hb.cellAt c5; clear hb)
    | (go_at_call 72; have hc := twiceS_any w2 (.slice A n c) e.groups (HG.out.upd HB2.out) (by have := HOK.out.groups; omega) HOK.out.group; rw [← HBR.out] at hc; refine hc.mono ?_; clear hc; rintro en w4 ⟨rfl, hb⟩; have HB4 : Hid (Kp w w4) := Lib.hid (HB2.out.trans hb); have c5 := hb.cellAt c5; clear hb)
    | (go_at_call 40; refine (first_any _ _ [unl (decide ((n : Int) ≤ 12)) 2, unl bw 13, unl (!br) 33] (nums3 w4 34 _ _ _) three_len).mono ?_; rintro en w5 ⟨rfl, hb⟩; have HB5 : Hid (Kp w w5) := Lib.hid (HB4.out.trans (Kp.trans ((Upd.refl _ w4).alloc _) hb)); have c5 := hb.cellAt (World.alloc_cell_old c5); clear hb)))
  all_goals go_wp2
  all_goals go_ret
  all_goals exact ⟨rfl, HB5.out⟩

set_option maxHeartbeats 2000000 in
theorem picks_any (w : World) (d : DrawL) (vt vp vq vb : Value) (h : DrawIn w d vt vp vq vb) (e : EntL) (xp xw xg : Value) (he : EntIn w e xp xw xg) : Calls Try.prog 37 #[dval d vt vp vq vb, evalE e xp xw xg] w (Gives w (.int .i64 (picksL d e))) := by
  obtain ⟨A, c, rfl, hA⟩ := he.p
  obtain ⟨n, hn⟩ : ∃ n, n = e.picks.length := ⟨_, rfl⟩
  obtain ⟨q2, hq2⟩ : ∃ b, b = e.picks.all (fun x => inR x 1 d.pool) := ⟨_, rfl⟩
  obtain ⟨q3, hq3⟩ : ∃ b, b = sortedB e.picks := ⟨_, rfl⟩
  obtain ⟨q4, hq4⟩ : ∃ b, b = rep e.picks := ⟨_, rfl⟩
  have hr : picksL d e = unl (((decide ((n : Int) = d.pick) && q2) && q3) && !q4) 15 := by rw [hn, hq2, hq3, hq4]; rfl
  rw [hr]
  have hg := he.p
  have hok := he.ok
  rw [← hn] at hg ⊢
  have HG := Lib.hid hg
  have HOK := Lib.hid hok
  have HN := Lib.hid hn
  have HQ2 := Lib.hid hq2
  have HQ3 := Lib.hid hq3
  have HQ4 := Lib.hid hq4
  clear h he hA hg hok hr hq2 hq3 hq4 hn
  have hU : Kp w ((w.alloc (.cells (dcells d vt vp vq vb).toArray 30)).alloc (.cells (ecells e (.slice A n c) xw xg).toArray 46)) := ((Upd.refl _ w).alloc _).alloc _
  obtain ⟨w1, hw1⟩ : ∃ w1, w1 = ((w.alloc (.cells (dcells d vt vp vq vb).toArray 30)).alloc (.cells (ecells e (.slice A n c) xw xg).toArray 46)) := ⟨_, rfl⟩
  rw [← hw1] at hU
  have HU1 := Lib.hid hU
  have c3 : w1.cell? ⟨w.heap.size + 1, 3, none⟩ = some (.slice A n c) := by rw [hw1]; simp
  have d5 : w1.cell? ⟨w.heap.size, 5, none⟩ = some (.int .i64 d.pick) := by rw [hw1]; simp
  have d4 : w1.cell? ⟨w.heap.size, 4, none⟩ = some (.int .i64 d.pool) := by rw [hw1]; simp
  have HD4 := Lib.hid d4
  clear hU d4
  simp only [dcells, ecells] at hw1
  have HALL := allI_any w1 (.slice A n c) e.picks (HG.out.upd HU1.out) (by have := HOK.out.picks; omega) 66 #[.pointer (some ⟨w.heap.size, 0, none⟩)] (fun x => inR x 1 d.pool) (picks1_ok _ _ _ _ HD4.out) (Go.Proofs.enters_of Try.func66 (by kernel_rfl) rfl)
  rw [← HQ2.out] at HALL
  replace HALL := Lib.hid HALL
  go_enter Try.func37, Try.ntmps37
  by_cases h1 : (n : Int) = d.pick
  · rw [decide_eq_true h1, Bool.true_and]
    have h1b : ((n : Int) == d.pick) = true := by simpa using h1
    clear h1
    go_upto_region 1 with fail
    rw [← hw1]
    clear hw1
    cases q2 with
    | false =>
      go_wp2_with (first
        | (go_at_call 65; refine HALL.out.mono ?_; rintro en w2 ⟨rfl, hb⟩; have HB2 : Hid (Kp w w2) := Lib.hid (HU1.out.trans hb); clear hb)
        | (go_at_call 41; refine (unless_any _ _ _).mono ?_; rintro en wa ⟨rfl, rfl⟩))
      go_ret
      exact ⟨rfl, HB2.out⟩
    | true =>
      cases q3 with
      | false =>
        go_wp2_with (first
          | (go_at_call 65; refine HALL.out.mono ?_; rintro en w2 ⟨rfl, hb⟩; have HB2 : Hid (Kp w w2) := Lib.hid (HU1.out.trans hb); have c3 := hb.cellAt c3; clear hb)
          | (go_at_call 67; have hc := sorted_any w2 (.slice A n c) e.picks (HG.out.upd HB2.out) (by have := HOK.out.picks; omega); rw [← HQ3.out] at hc; refine hc.mono ?_; clear hc; rintro en w3 ⟨rfl, hb⟩; have HB3 : Hid (Kp w w3) := Lib.hid (HB2.out.trans hb); clear hb)
          | (go_at_call 41; refine (unless_any _ _ _).mono ?_; rintro en wa ⟨rfl, rfl⟩))
        go_ret
        exact ⟨rfl, HB3.out⟩
      | true =>
        go_wp2_with (first
          | (go_at_call 65; refine HALL.out.mono ?_; rintro en w2 ⟨rfl, hb⟩; have HB2 : Hid (Kp w w2) := Lib.hid (HU1.out.trans hb); have c3 := hb.cellAt c3; clear hb)
          | (go_at_call 67; have hc := sorted_any w2 (.slice A n c) e.picks (HG.out.upd HB2.out) (by have := HOK.out.picks; omega); rw [← HQ3.out] at hc; refine hc.mono ?_; clear hc; rintro en w3 ⟨rfl, hb⟩; have HB3 : Hid (Kp w w3) := Lib.hid (HB2.out.trans hb); have c3 := hb.cellAt c3; clear hb)
          | (go_at_call 57; have hc := twiceI_any w3 (.slice A n c) e.picks (HG.out.upd HB3.out) (by have := HOK.out.picks; omega) HOK.out.pick64; rw [← HQ4.out] at hc; refine hc.mono ?_; clear hc; rintro en w4 ⟨rfl, hb⟩; have HB4 : Hid (Kp w w4) := Lib.hid (HB3.out.trans hb); clear hb)
          | (go_at_call 41; refine (unless_any _ _ _).mono ?_; rintro en wa ⟨rfl, rfl⟩))
        go_ret
        exact ⟨by simp, HB4.out⟩
  · rw [decide_eq_false h1]
    have h1b : ((n : Int) == d.pick) = false := by simpa using h1
    clear h1
    go_upto_region 1 with fail
    rw [← hw1]
    clear hw1
    go_wp2_with (first
      | (go_at_call 41; refine (unless_any _ _ _).mono ?_; rintro en wa ⟨rfl, rfl⟩))
    go_ret
    exact ⟨rfl, HU1.out⟩
end Go.Proofs.Ytaejnhgnacgheaa
