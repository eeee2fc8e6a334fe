/- types: Entrant (printed by gen-t13.py). -/
import Derived.Test.YtaejnhgnacgheaaT12
import Derived.Test.YtaejnhgnacgheaaT9
namespace Go.Proofs.Ytaejnhgnacgheaa
set_option linter.unusedVariables false
set_option linter.unusedSimpArgs false
open Go.RowKit
attribute [local go_sem] run_store_func

def ballotL (e : EntL) : Bool := decide (e.cls ≠ 0) || decide (e.fam ≠ 0) || decide (0 < e.wishes.length)
def ownL (d : DrawL) (e : EntL) : Bool :=
  (decide (d.kind = 1) || decide (e.picks.length = 0)) && (decide (d.kind = 2) || !ballotL e) && (decide (d.kind = 3) || decide (e.groups.length = 0))
def moreL (d : DrawL) (e : EntL) : Int := if d.kind = 1 then picksL d e else if d.kind = 2 then wishesL d e else groupsL e
def listL (d : DrawL) (e : EntL) : List Int := [unl (inR e.id 1 1000000000) 15, unl (!d.barred.any fun y => decide (y = e.id)) 35, unl (ownL d e) 14, moreL d e]
def entrantL (d : DrawL) (e : EntL) : Int := if (runC d clausesL).2 ≠ 0 then 1 else firstL (listL d e)

theorem check_kind {d : DrawL} (h : (runC d clausesL).2 = 0) : d.kind = 1 ∨ d.kind = 2 ∨ d.kind = 3 := by
  rw [← checkR_eq] at h
  unfold checkR at h
  by_cases h1 : isWord d.name = false
  · rw [if_pos h1] at h; simp at h
  · rw [if_neg h1] at h
    by_cases h2 : inR d.kind 1 3 = false ∨ foreignL d = true
    · rw [if_pos h2] at h; simp at h
    · have hin : inR d.kind 1 3 = true := by
        cases hq : inR d.kind 1 3
        · exact absurd (.inl hq) h2
        · rfl
      unfold inR at hin
      simp only [Bool.and_eq_true, decide_eq_true_eq] at hin
      omega
theorem more_calls (w : World) (d : DrawL) (vt vp vq vb : Value) (h : DrawIn w d vt vp vq vb) (e : EntL) (xp xw xg : Value) (he : EntIn w e xp xw xg) (g : Nat) (hg : (g = 37 ∧ d.kind = 1) ∨ (g = 38 ∧ d.kind = 2) ∨ (g = 39 ∧ d.kind = 3)) :
    Calls Try.prog g #[dval d vt vp vq vb, evalE e xp xw xg] w (Gives w (.int .i64 (moreL d e))) := by
  rcases hg with ⟨rfl, hk⟩ | ⟨rfl, hk⟩ | ⟨rfl, hk⟩
  · rw [show moreL d e = picksL d e from if_pos hk]
    exact picks_any w d vt vp vq vb h e xp xw xg he
  · rw [show moreL d e = wishesL d e by unfold moreL; rw [if_neg (by omega), if_pos hk]]
    exact wishes_any w d vt vp vq vb h e xp xw xg he
  · rw [show moreL d e = groupsL e by unfold moreL; rw [if_neg (by omega), if_neg (by omega)]]
    exact groups_any w d vt vp vq vb h e xp xw xg he

/-- how a function value reads, in a map of functions -/
def fnR : Value → Option (DataW Unit × List MemPlace)
  | .func (.func g) c l => if c.size = 0 ∧ l.size = 0 then some (.lit (.int .i64 (g : Int)), []) else none
  | .nilFunc => some (.lit (.int .i64 (-1)), [])
  | _ => none
theorem fnR_mk (g : Nat) : fnR (.func (.func g) #[] #[]) = some (.lit (.int .i64 (g : Int)), []) := by simp [fnR]
theorem fnR_nil : fnR .nilFunc = some (.lit (.int .i64 (-1)), []) := rfl
theorem lit_inj {a b : Int} {p q : List MemPlace} (h : some ((.lit (.int .i64 a) : DataW Unit), p) = some (.lit (.int .i64 b), q)) : a = b := by
  injection h with h
  injection h with ha _
  injection ha with ha
  injection ha
theorem fnR_inv {v : Value} {g : Nat} {ps : List MemPlace} (h : fnR v = some (.lit (.int .i64 (g : Int)), ps)) : v = .func (.func g) #[] #[] := by
  cases v with
  | func f c l =>
    cases f with
    | func g' =>
      simp only [fnR] at h
      by_cases hcl : c.size = 0 ∧ l.size = 0
      · rw [if_pos hcl] at h
        have h4 : (g' : Int) = (g : Int) := lit_inj h
        have h3 : g' = g := Int.ofNat.inj h4
        rw [h3, Array.eq_empty_of_size_eq_zero hcl.1, Array.eq_empty_of_size_eq_zero hcl.2]
      · rw [if_neg hcl] at h
        cases h
    | _ => cases h
  | nilFunc =>
    have h4 : (-1 : Int) = (g : Int) := lit_inj h
    exact absurd h4 (by omega)
  | _ => cases h
theorem more_map (w : World) (kd : Int) (hk : kd = 1 ∨ kd = 2 ∨ kd = 3) : ∃ m1 m2 m3 g,
    (Instr.mapUpdate 85 (.map (some w.heap.size)) (.int .i64 1) (.func (.func 37) #[] #[])).run Try.prog (w.alloc (.map #[] 0)) = .ok () m1 ∧
    (Instr.mapUpdate 85 (.map (some w.heap.size)) (.int .i64 2) (.func (.func 38) #[] #[])).run Try.prog m1 = .ok () m2 ∧
    (Instr.mapUpdate 85 (.map (some w.heap.size)) (.int .i64 3) (.func (.func 39) #[] #[])).run Try.prog m2 = .ok () m3 ∧
    (Instr.lookup 85 (.map (some w.heap.size)) (.int .i64 kd) false).run Try.prog m3 = .ok (.func (.func g) #[] #[]) m3 ∧ Kp w m3 ∧
    ((g = 37 ∧ kd = 1) ∨ (g = 38 ∧ kd = 2) ∨ (g = 39 ∧ kd = 3)) := by
  have h0 : (w.alloc (.map #[] 0)).ownsMap Try.prog 3 fnR w.heap.size 0 (.map []) := World.ownsMap_made w _ _ _
  have hT := Try.underlying85
  obtain ⟨m1, r1, o1, g1⟩ := h0.update lawI hT (by unfold maxLen; omega) (keyI (x := 1) (by unfold in64; omega)) (fnR_mk 37)
  obtain ⟨m2, r2, o2, g2⟩ := o1.update lawI hT (by unfold maxLen; omega) (keyI (x := 2) (by unfold in64; omega)) (fnR_mk 38)
  obtain ⟨m3, r3, o3, g3⟩ := o2.update lawI hT (by unfold maxLen; omega) (keyI (x := 3) (by unfold in64; omega)) (fnR_mk 39)
  have hz : (zeroValue 48).run Try.prog m3 = .ok .nilFunc m3 := by kernel_rfl
  obtain ⟨v, ps, r4, hv⟩ := o3.lookup lawI hT hz fnR_nil (keyI (x := kd) (by unfold in64; omega))
  have hkp : Kp w m3 := grown_kp (grown_kp (grown_kp ((Upd.refl _ w).alloc _) g1 (Nat.le_refl _)) g2 (Nat.le_refl _)) g3 (Nat.le_refl _)
  have d1 : Maps.IsMap ((DataW.map (H := Unit) []).put (.int .i64 1) (.lit (.int .i64 (37 : Nat)))) := ownsMap_isMap o1
  have d2 := ownsMap_isMap o2
  rcases hk with rfl | rfl | rfl
  · rw [Maps.atKey_put_other (by simp), Maps.atKey_put_other (by simp), Maps.atKey_put_same (ownsMap_isMap h0) (keyI_lit _)] at hv
    exact ⟨m1, m2, m3, _, r1, r2, r3, by rw [r4, fnR_inv hv], hkp, .inl ⟨rfl, rfl⟩⟩
  · rw [Maps.atKey_put_other (by simp), Maps.atKey_put_same d1 (keyI_lit _)] at hv
    exact ⟨m1, m2, m3, _, r1, r2, r3, by rw [r4, fnR_inv hv], hkp, .inr (.inl ⟨rfl, rfl⟩)⟩
  · rw [Maps.atKey_put_same d2 (keyI_lit _)] at hv
    exact ⟨m1, m2, m3, _, r1, r2, r3, by rw [r4, fnR_inv hv], hkp, .inr (.inr ⟨rfl, rfl⟩)⟩

theorem cells19 {W : World} {b : Nat} {d : DrawL} {vt vp vq vb : Value} {e : EntL} {xp xw xg : Value} (h1 : Row W b 30 (dcells d vt vp vq vb)) (h2 : Row W (b + 1) 46 (ecells e xp xw xg)) : W.cell? ⟨b, 0, none⟩ = some (.string ⟨d.name.toArray⟩) ∧ W.cell? ⟨b, 1, none⟩ = some (.int .i64 d.kind) ∧ W.cell? ⟨b, 2, none⟩ = some (.int .i64 d.round) ∧ W.cell? ⟨b, 3, none⟩ = some (.int .i64 d.price) ∧ W.cell? ⟨b, 4, none⟩ = some (.int .i64 d.pool) ∧ W.cell? ⟨b, 5, none⟩ = some (.int .i64 d.pick) ∧ W.cell? ⟨b, 6, none⟩ = some (vt) ∧ W.cell? ⟨b, 7, none⟩ = some (.bool d.roll) ∧ W.cell? ⟨b, 8, none⟩ = some (vp) ∧ W.cell? ⟨b, 9, none⟩ = some (.int .i64 d.cls) ∧ W.cell? ⟨b, 10, none⟩ = some (.int .i64 d.size) ∧ W.cell? ⟨b, 11, none⟩ = some (vq) ∧ W.cell? ⟨b, 12, none⟩ = some (vb) ∧ W.cell? ⟨b + 1, 0, none⟩ = some (.int .i64 e.id) ∧ W.cell? ⟨b + 1, 1, none⟩ = some (.int .i64 e.cls) ∧ W.cell? ⟨b + 1, 2, none⟩ = some (.int .i64 e.fam) ∧ W.cell? ⟨b + 1, 3, none⟩ = some (xp) ∧ W.cell? ⟨b + 1, 4, none⟩ = some (xw) ∧ W.cell? ⟨b + 1, 5, none⟩ = some (xg) :=
  ⟨h1.cell 0, h1.cell 1, h1.cell 2, h1.cell 3, h1.cell 4, h1.cell 5, h1.cell 6, h1.cell 7, h1.cell 8, h1.cell 9, h1.cell 10, h1.cell 11, h1.cell 12, h2.cell 0, h2.cell 1, h2.cell 2, h2.cell 3, h2.cell 4, h2.cell 5⟩
set_option maxHeartbeats 8000000 in
set_option maxRecDepth 20000 in
theorem entrant_any (w : World) (d : DrawL) (vt vp vq vb : Value) (h : DrawIn w d vt vp vq vb) (e : EntL) (xp xw xg : Value) (he : EntIn w e xp xw xg) :
    Calls Try.prog 18 #[dval d vt vp vq vb, evalE e xp xw xg] w (Gives w (.int .i64 (entrantL d e))) := by
  obtain ⟨Ab, cb, rfl, hA⟩ := h.b
  obtain ⟨A1, c1, rfl, h1⟩ := he.p
  obtain ⟨A2, c2, rfl, h2⟩ := he.wi
  obtain ⟨A3, c3, rfl, h3⟩ := he.g
  have hbl := h.ok.barred
  obtain ⟨nb, hnb⟩ : ∃ n, n = d.barred.length := ⟨_, rfl⟩
  obtain ⟨n1, hn1⟩ : ∃ n, n = e.picks.length := ⟨_, rfl⟩
  obtain ⟨n2, hn2⟩ : ∃ n, n = e.wishes.length := ⟨_, rfl⟩
  obtain ⟨n3, hn3⟩ : ∃ n, n = e.groups.length := ⟨_, rfl⟩
  rw [← hn1, ← hn2, ← hn3] at he
  rw [← hnb] at h hbl
  rw [← hnb, ← hn1, ← hn2, ← hn3]
  obtain ⟨r, hr⟩ : ∃ r, r = runC d clausesL := ⟨_, rfl⟩
  have HD := Lib.hid h
  have HE := Lib.hid he
  have HNB := Lib.hid hnb
  have HR := Lib.hid hr
  have hU : Kp w ((w.alloc (.cells (dcells d vt vp vq (.slice Ab nb cb)).toArray 30)).alloc (.cells (ecells e (.slice A1 n1 c1) (.slice A2 n2 c2) (.slice A3 n3 c3)).toArray 46)) := ((Upd.refl _ w).alloc _).alloc _
  have hrowd : Row ((w.alloc (.cells (dcells d vt vp vq (.slice Ab nb cb)).toArray 30)).alloc (.cells (ecells e (.slice A1 n1 c1) (.slice A2 n2 c2) (.slice A3 n3 c3)).toArray 46)) w.heap.size 30 (dcells d vt vp vq (.slice Ab nb cb)) := (Row.new w _ _).upd ((Upd.refl (fun _ => False) _).alloc _) id
  have hrowe : Row ((w.alloc (.cells (dcells d vt vp vq (.slice Ab nb cb)).toArray 30)).alloc (.cells (ecells e (.slice A1 n1 c1) (.slice A2 n2 c2) (.slice A3 n3 c3)).toArray 46)) (w.heap.size + 1) 46 (ecells e (.slice A1 n1 c1) (.slice A2 n2 c2) (.slice A3 n3 c3)) := Row.new_at _ _ _ _ (by simp)
  obtain ⟨w1, hw1⟩ : ∃ w1, w1 = ((w.alloc (.cells (dcells d vt vp vq (.slice Ab nb cb)).toArray 30)).alloc (.cells (ecells e (.slice A1 n1 c1) (.slice A2 n2 c2) (.slice A3 n3 c3)).toArray 46)) := ⟨_, rfl⟩
  rw [← hw1] at hU hrowd hrowe
  have HU1 := Lib.hid hU
  have RD1 := Lib.hid hrowd
  have RE1 := Lib.hid hrowe
  have hchk := check_run w1 d vt vp vq (.slice Ab nb cb) (h.kp hU)
  rw [← hr] at hchk
  have HCHK := Lib.hid hchk
  have HEN := Lib.hid (show entrantL d e = if r.2 ≠ 0 then 1 else firstL (listL d e) by rw [hr]; rfl)
  have HLI := Lib.hid (show listL d e = [unl (inR e.id 1 1000000000) 15, unl (!d.barred.any fun y => decide (y = e.id)) 35, unl (ownL d e) 14, moreL d e] from rfl)
  have HOW := Lib.hid (show ownL d e = ((decide (d.kind = 1) || decide (n1 = 0)) && (decide (d.kind = 2) || !(decide (e.cls ≠ 0) || decide (e.fam ≠ 0) || decide (0 < n2))) && (decide (d.kind = 3) || decide (n3 = 0))) by rw [hn1, hn2, hn3]; rfl)
  have d0 : w1.cell? ⟨w.heap.size, 0, none⟩ = some (.string ⟨d.name.toArray⟩) := hrowd.cell 0
  have d1 : w1.cell? ⟨w.heap.size, 1, none⟩ = some (.int .i64 d.kind) := hrowd.cell 1
  have d2 : w1.cell? ⟨w.heap.size, 2, none⟩ = some (.int .i64 d.round) := hrowd.cell 2
  have d3 : w1.cell? ⟨w.heap.size, 3, none⟩ = some (.int .i64 d.price) := hrowd.cell 3
  have d4 : w1.cell? ⟨w.heap.size, 4, none⟩ = some (.int .i64 d.pool) := hrowd.cell 4
  have d5 : w1.cell? ⟨w.heap.size, 5, none⟩ = some (.int .i64 d.pick) := hrowd.cell 5
  have d6 : w1.cell? ⟨w.heap.size, 6, none⟩ = some (vt) := hrowd.cell 6
  have d7 : w1.cell? ⟨w.heap.size, 7, none⟩ = some (.bool d.roll) := hrowd.cell 7
  have d8 : w1.cell? ⟨w.heap.size, 8, none⟩ = some (vp) := hrowd.cell 8
  have d9 : w1.cell? ⟨w.heap.size, 9, none⟩ = some (.int .i64 d.cls) := hrowd.cell 9
  have d10 : w1.cell? ⟨w.heap.size, 10, none⟩ = some (.int .i64 d.size) := hrowd.cell 10
  have d11 : w1.cell? ⟨w.heap.size, 11, none⟩ = some (vq) := hrowd.cell 11
  have d12 : w1.cell? ⟨w.heap.size, 12, none⟩ = some ((.slice Ab nb cb)) := hrowd.cell 12
  clear h he hA h1 h2 h3 hnb hn1 hn2 hn3 hr hU hrowd hrowe hchk
  simp only [dcells, ecells] at hw1
  obtain ⟨nm, er⟩ := r
  simp only at HEN
  go_enter Try.func18, Try.ntmps18
  go_upto_region 1 with fail
  rw [← hw1]
  clear hw1
  by_cases her : er = 0
  · subst her
    replace HEN := Lib.hid (HEN.out.trans (if_neg (by simp)))
    have HK := Lib.hid (check_kind (d := d) (by rw [← HR.out]))
    go_upto_region 4 with (go_at_call 13; refine HCHK.out.mono ?_; rintro en w2 ⟨rfl, hb⟩; have HB2 := Lib.hid hb; clear hb)
    clear d0 d1 d2 d3 d4 d5 d6 d7 d8 d9 d10 d11 d12
    have HU2 : Hid (Kp w w2) := Lib.hid (HU1.out.trans HB2.out)
    have RD2 : Hid (Row w2 w.heap.size 30 (dcells d vt vp vq (.slice Ab nb cb))) := Lib.hid (RD1.out.upd HB2.out id)
    have RE2 : Hid (Row w2 (w.heap.size + 1) 46 (ecells e (.slice A1 n1 c1) (.slice A2 n2 c2) (.slice A3 n3 c3))) := Lib.hid (RE1.out.upd HB2.out id)
    have f1 : w2.cell? ⟨w.heap.size + 1, 1, none⟩ = some (.int .i64 e.cls) := RE2.out.cell 1
    have f2 : w2.cell? ⟨w.heap.size + 1, 2, none⟩ = some (.int .i64 e.fam) := RE2.out.cell 2
    have f3 : w2.cell? ⟨w.heap.size + 1, 3, none⟩ = some ((.slice A1 n1 c1)) := RE2.out.cell 3
    have f4 : w2.cell? ⟨w.heap.size + 1, 4, none⟩ = some ((.slice A2 n2 c2)) := RE2.out.cell 4
    have f5 : w2.cell? ⟨w.heap.size + 1, 5, none⟩ = some ((.slice A3 n3 c3)) := RE2.out.cell 5
    obtain ⟨bal, hbal⟩ : ∃ b, b = (decide (e.cls ≠ 0) || decide (e.fam ≠ 0) || decide (0 < n2)) := ⟨_, rfl⟩
    rw [← hbal] at HOW
    have HBAL := Lib.hid hbal
    clear hbal
    go_cut [7] from 17 to 30 (fun x wx => x = .bool bal ∧ wx = w2)
    case first =>
      by_cases h1 : e.cls = 0
      · by_cases h2 : e.fam = 0
        · by_cases h3 : 0 < n2
          · have h3i : (0 : Int) < n2 := by omega
            go_wp2_with fail
            go_meet
            exact ⟨by rw [HBAL.out]; simp [h1, h2, h3], rfl⟩
          · have h3i : ¬ (0 : Int) < n2 := by omega
            go_wp2_with fail
            go_meet
            exact ⟨by rw [HBAL.out]; simp [h1, h2, h3], rfl⟩
        · go_wp2_with fail
          go_meet
          exact ⟨by rw [HBAL.out]; simp [h1, h2], rfl⟩
      · go_wp2_with fail
        go_meet
        exact ⟨by rw [HBAL.out]; simp [h1], rfl⟩
    case rest =>
      obtain ⟨rfl, hwc⟩ := hcut
      rw [hwc]
      clear hwc
      clear f1 f2 f4
      have g1 : w2.cell? ⟨w.heap.size, 1, none⟩ = some (.int .i64 d.kind) := RD2.out.cell 1
      obtain ⟨own, hown⟩ : ∃ b, b = ownL d e := ⟨_, rfl⟩
      rw [← hown] at HOW HLI
      clear hown
      go_upto_region 5 with fail
      go_cut [8] from 31 to 59 (fun x wx => x = .bool own ∧ wx = w2)
      case first =>
        have hz1 : decide (n1 = 0) = ((n1 : Int) == 0) := by by_cases h : n1 = 0 <;> simp [h]
        have hz3 : decide (n3 = 0) = ((n3 : Int) == 0) := by by_cases h : n3 = 0 <;> simp [h]
        have hx1 : decide (d.kind = 1) = (d.kind == 1) := rfl
        have hx2 : decide (d.kind = 2) = (d.kind == 2) := rfl
        have hx3 : decide (d.kind = 3) = (d.kind == 3) := rfl
        rw [hz1, hz3, hx1, hx2, hx3] at HOW
        clear hz1 hz3 hx1 hx2 hx3
        rcases HK.out with h | h | h
        · have k1 : (d.kind == 1) = true := by simp [h]
          have k2 : (d.kind == 2) = false := by simp [h]
          have k3 : (d.kind == 3) = false := by simp [h]
          rw [k1, k2, k3] at HOW
          clear h
          cases bal <;> cases z3 : ((n3 : Int) == 0) <;> (go_wp2_with fail; go_meet; exact ⟨by rw [HOW.out]; simp [z3], rfl⟩)
        · have k1 : (d.kind == 1) = false := by simp [h]
          have k2 : (d.kind == 2) = true := by simp [h]
          have k3 : (d.kind == 3) = false := by simp [h]
          rw [k1, k2, k3] at HOW
          clear h
          cases z1 : ((n1 : Int) == 0) <;> cases z3 : ((n3 : Int) == 0) <;> (go_wp2_with fail; go_meet; exact ⟨by rw [HOW.out]; simp [z1, z3], rfl⟩)
        · have k1 : (d.kind == 1) = false := by simp [h]
          have k2 : (d.kind == 2) = false := by simp [h]
          have k3 : (d.kind == 3) = true := by simp [h]
          rw [k1, k2, k3] at HOW
          clear h
          cases z1 : ((n1 : Int) == 0) <;> cases bal <;> (go_wp2_with fail; go_meet; exact ⟨by rw [HOW.out]; simp [z1], rfl⟩)
      case rest =>
        obtain ⟨rfl, hwc⟩ := hcut
        rw [hwc]
        clear hwc
        clear f3 f5
        have hmm := @run_makeMap Try.prog
        obtain ⟨m1, m2, m3, g, r1, r2, r3, r4, hkm, hg⟩ := more_map w2 d.kind HK.out
        have HU3 : Hid (Kp w m3) := Lib.hid (HU2.out.trans hkm)
        have RD3 : Hid (Row m3 w.heap.size 30 (dcells d vt vp vq (.slice Ab nb cb))) := Lib.hid (RD2.out.upd hkm id)
        have RE3 : Hid (Row m3 (w.heap.size + 1) 46 (ecells e (.slice A1 n1 c1) (.slice A2 n2 c2) (.slice A3 n3 c3))) := Lib.hid (RE2.out.upd hkm id)
        have g3 : m3.cell? ⟨w.heap.size, 1, none⟩ = some (.int .i64 d.kind) := RD3.out.cell 1
        have HG := Lib.hid hg
        clear hkm hg g1
        have henter : ∀ args w, (callFunc g args).run Try.prog w = .ok (.enter g args) w := by
          rcases HG.out with ⟨h, _⟩ | ⟨h, _⟩ | ⟨h, _⟩
          · subst h; exact Go.Proofs.enters_of Try.func37 (by kernel_rfl) rfl
          · subst h; exact Go.Proofs.enters_of Try.func38 (by kernel_rfl) rfl
          · subst h; exact Go.Proofs.enters_of Try.func39 (by kernel_rfl) rfl
        go_upto_region 7 with fail
        clear hmm r1 r2 r3 r4 g3
        obtain ⟨q1, hq1⟩ : ∃ b, b = inR e.id 1 1000000000 := ⟨_, rfl⟩
        obtain ⟨q2, hq2⟩ : ∃ b, b = d.barred.any (fun y => decide (y = e.id)) := ⟨_, rfl⟩
        obtain ⟨mo, hmo⟩ : ∃ v, v = moreL d e := ⟨_, rfl⟩
        rw [← hq1, ← hq2, ← hmo] at HLI
        have HQ1 := Lib.hid hq1
        have HQ2 := Lib.hid hq2
        have HMO := Lib.hid hmo
        clear hq1 hq2 hmo
        have cc := cells19 RD3.out RE3.out
        go_region_held3 (fun W => W.cell? ⟨w.heap.size, 0, none⟩ = some (.string ⟨d.name.toArray⟩) ∧ W.cell? ⟨w.heap.size, 1, none⟩ = some (.int .i64 d.kind) ∧ W.cell? ⟨w.heap.size, 2, none⟩ = some (.int .i64 d.round) ∧ W.cell? ⟨w.heap.size, 3, none⟩ = some (.int .i64 d.price) ∧ W.cell? ⟨w.heap.size, 4, none⟩ = some (.int .i64 d.pool) ∧ W.cell? ⟨w.heap.size, 5, none⟩ = some (.int .i64 d.pick) ∧ W.cell? ⟨w.heap.size, 6, none⟩ = some (vt) ∧ W.cell? ⟨w.heap.size, 7, none⟩ = some (.bool d.roll) ∧ W.cell? ⟨w.heap.size, 8, none⟩ = some (vp) ∧ W.cell? ⟨w.heap.size, 9, none⟩ = some (.int .i64 d.cls) ∧ W.cell? ⟨w.heap.size, 10, none⟩ = some (.int .i64 d.size) ∧ W.cell? ⟨w.heap.size, 11, none⟩ = some (vq) ∧ W.cell? ⟨w.heap.size, 12, none⟩ = some ((.slice Ab nb cb)) ∧ W.cell? ⟨w.heap.size + 1, 0, none⟩ = some (.int .i64 e.id) ∧ W.cell? ⟨w.heap.size + 1, 1, none⟩ = some (.int .i64 e.cls) ∧ W.cell? ⟨w.heap.size + 1, 2, none⟩ = some (.int .i64 e.fam) ∧ W.cell? ⟨w.heap.size + 1, 3, none⟩ = some ((.slice A1 n1 c1)) ∧ W.cell? ⟨w.heap.size + 1, 4, none⟩ = some ((.slice A2 n2 c2)) ∧ W.cell? ⟨w.heap.size + 1, 5, none⟩ = some ((.slice A3 n3 c3))) (first | exact cc | (exact cells19 (Row.upd RDc.out ((Upd.refl (fun _ => False) _).alloc _) id) (Row.upd REc.out ((Upd.refl (fun _ => False) _).alloc _) id)) | go_keep) ((first
          | (go_at_call 42; refine (within_any _ _ _ _).mono ?_; rintro en wa ⟨rfl, rfl⟩; rw [← HQ1.out])
          | (go_at_call 41; refine (unless_any _ _ _).mono ?_; rintro en wa ⟨rfl, rfl⟩)
          | (go_at_call 43; have hc := contains_any m3.drew (.slice Ab nb cb) d.barred e.id ((HD.out.kp (Kp.drewR HU3.out)).b) (by have := HNB.out; omega); rw [← HQ2.out] at hc; refine hc.mono ?_; clear hc; rintro en w4 ⟨rfl, hb0⟩; have hb : Kp m3 w4 := (Kp.trans (Kp.drewR (Upd.refl _ m3)) hb0); clear hb0; have HU4 : Hid (Kp w w4) := Lib.hid (HU3.out.trans hb); have RD4 := Lib.hid (RD3.out.upd hb id); have RE4 := Lib.hid (RE3.out.upd hb id); clear hb; have cc := cells19 RD4.out RE4.out)
          | (show Calls _ g _ w4 _; have hc := more_calls w4 d vt vp vq (.slice Ab nb cb) (HD.out.kp HU4.out) e (.slice A1 n1 c1) (.slice A2 n2 c2) (.slice A3 n3 c3) (HE.out.kp HU4.out) g HG.out; rw [← HMO.out] at hc; refine hc.mono ?_; clear hc; rintro en w5 ⟨rfl, hb⟩; have HU5 : Hid (Kp w w5) := Lib.hid (HU4.out.trans hb); have RDc := Lib.hid (RD4.out.upd hb id); have REc := Lib.hid (RE4.out.upd hb id); clear hb; have cc := cells19 RDc.out REc.out)
          | (go_at_call 40; refine (first_any _ _ [unl q1 15, unl (!q2) 35, unl own 14, mo] (nums4 w5 34 _ _ _ _) four_len).mono ?_; rintro en w6 ⟨rfl, hb⟩; have HU6 : Hid (Kp w w6) := Lib.hid (HU5.out.trans (Kp.trans ((Upd.refl _ w5).alloc _) hb)); have cc := cells19 (Row.upd (Row.upd RDc.out ((Upd.refl (fun _ => False) _).alloc _) id) hb id) (Row.upd (Row.upd REc.out ((Upd.refl (fun _ => False) _).alloc _) id) hb id); clear hb)))
        all_goals go_wp2
        all_goals go_ret
        all_goals exact ⟨by rw [HEN.out, HLI.out]; rfl, HU6.out⟩
  · have hne : (er != 0) = true := by simpa using her
    replace HEN := Lib.hid (HEN.out.trans (if_pos (by simpa using her)))
    go_wp2_with (go_at_call 13; refine HCHK.out.mono ?_; rintro en w2 ⟨rfl, hb⟩; have HB2 := Lib.hid hb; clear hb)
    go_ret
    exact ⟨by rw [HEN.out]; rfl, HU1.out.trans HB2.out⟩
end Go.Proofs.Ytaejnhgnacgheaa
