/- types: wishes (printed by gen-t12.py). -/
import Derived.Test.YtaejnhgnacgheaaT11
namespace Go.Proofs.Ytaejnhgnacgheaa
set_option linter.unusedVariables false
set_option linter.unusedSimpArgs false
open Go.RowKit

set_option maxHeartbeats 4000000 in
set_option maxRecDepth 20000 in
theorem wishes_any (w : World) (d : DrawL) (vt vp vq vb : Value) (h : DrawIn w d vt vp vq vb) (e : EntL) (xp xw xg : Value) (he : EntIn w e xp xw xg) : Calls Try.prog 38 #[dval d vt vp vq vb, evalE e xp xw xg] w (Gives w (.int .i64 (wishesL d e))) := by
  obtain ⟨A, c, rfl, hA⟩ := h.p
  obtain ⟨C, k, rfl, hC⟩ := he.wi
  obtain ⟨n, hn⟩ : ∃ n, n = d.places.length := ⟨_, rfl⟩
  obtain ⟨m, hm⟩ : ∃ n, n = e.wishes.length := ⟨_, rfl⟩
  obtain ⟨q1, hq1⟩ : ∃ b, b = inR e.cls 0 d.cls := ⟨_, rfl⟩
  obtain ⟨q2, hq2⟩ : ∃ b, b = inR e.fam 0 1000000000 := ⟨_, rfl⟩
  obtain ⟨ba, hba⟩ : ∃ b, b = e.wishes.all (knownL d) := ⟨_, rfl⟩
  obtain ⟨br, hbr⟩ : ∃ b, b = rep e.wishes := ⟨_, rfl⟩
  have hr : wishesL d e = firstL [unl (q1 && q2) 15, unl (decide ((m : Int) ≤ n)) 2, unl ba 13, unl (!br) 33] := by rw [hn, hm, hq1, hq2, hba, hbr]; rfl
  rw [hr]
  have hp := h.p
  have hpl := h.ok.places
  have hg := he.wi
  have hok := he.ok
  rw [← hn] at hp ⊢
  rw [← hm] at hg ⊢
  have HOK := Lib.hid hok
  have hU : Kp w ((w.alloc (.cells (dcells d vt (.slice A n c) vq vb).toArray 30)).alloc (.cells (ecells e xp (.slice C m k) xg).toArray 46)) := ((Upd.refl _ w).alloc _).alloc _
  obtain ⟨w1, hw1⟩ : ∃ w1, w1 = ((w.alloc (.cells (dcells d vt (.slice A n c) vq vb).toArray 30)).alloc (.cells (ecells e xp (.slice C m k) xg).toArray 46)) := ⟨_, rfl⟩
  rw [← hw1] at hU
  have HU1 := Lib.hid hU
  have e1 : w1.cell? ⟨w.heap.size + 1, 1, none⟩ = some (.int .i64 e.cls) := by rw [hw1]; simp
  have e2 : w1.cell? ⟨w.heap.size + 1, 2, none⟩ = some (.int .i64 e.fam) := by rw [hw1]; simp
  have e4 : w1.cell? ⟨w.heap.size + 1, 4, none⟩ = some (.slice C m k) := by rw [hw1]; simp
  have d9 : w1.cell? ⟨w.heap.size, 9, none⟩ = some (.int .i64 d.cls) := by rw [hw1]; simp
  have d8 : w1.cell? ⟨w.heap.size, 8, none⟩ = some (.slice A n c) := by rw [hw1]; simp
  have HIN1 : Hid (∀ W, Calls Try.prog 42 #[.int .i64 e.cls, .int .i64 0, .int .i64 d.cls] W (Gives W (.bool q1))) := Lib.hid (fun W => (within_any W _ _ _).mono (fun en w' h => ⟨by rw [h.1, hq1], by rw [h.2]; exact Upd.refl _ _⟩))
  have HIN2 : Hid (∀ W, Calls Try.prog 42 #[.int .i64 e.fam, .int .i64 0, .int .i64 1000000000] W (Gives W (.bool q2))) := Lib.hid (fun W => (within_any W _ _ _).mono (fun en w' h => ⟨by rw [h.1, hq2], by rw [h.2]; exact Upd.refl _ _⟩))
  have HUN : Hid (∀ W (b : Bool) (x : Int), Calls Try.prog 41 #[.bool b, .int .i64 x] W (Gives W (.int .i64 (unl b x)))) := Lib.hid (fun W b x => (unless_any W b x).mono (fun en w' h => ⟨h.1, by rw [h.2]; exact Upd.refl _ _⟩))
  have HALL : Hid (∀ W, Kp w1 W → Calls Try.prog 71 #[.slice C m k, .func (.func 68) #[] #[.pointer (some ⟨w.heap.size, 0, none⟩)]] W (Gives W (.bool ba))) := Lib.hid (fun W hW => by
    rw [hba]
    exact allS_any W _ e.wishes (hg.upd (hU.trans hW)) (by have := hok.wishes; omega) _ _ (knownL d) (wishes1_ok W d e.wishes w.heap.size _ (hp.upd (hU.trans hW)) hpl (hW.cellAt d8)) (Go.Proofs.enters_of Try.func68 (by kernel_rfl) rfl))
  have HTW : Hid (∀ W, Kp w1 W → Calls Try.prog 72 #[.slice C m k] W (Gives W (.bool br))) := Lib.hid (fun W hW => by
    rw [hbr]
    exact twiceS_any W _ e.wishes (hg.upd (hU.trans hW)) (by have := hok.wishes; omega) hok.wish)
  clear h he hA hC hp hpl hg hok hU hr hq1 hq2 hba hbr hn hm
  simp only [dcells, ecells] at hw1
  go_enter Try.func38, Try.ntmps38
  go_wp2_with (fail)
  rw [← hw1]
  clear hw1
  cases q1 with
  | false =>
    refine wp_region_specs (dl := [7, 8, 9, 10, 11, 12, 13, 14, 15, 16, 17, 18, 19, 20, 21, 22, 23, 24, 25, 26, 27, 28, 29, 30, 31, 32, 33, 34, 35, 36, 37, 4]) (spec := fun t => Want.ok (((fun t => match t with | 7 => .is (.pointer (some ⟨w.heap.size + 1, 1, none⟩)) | 8 => .is (.int .i64 e.cls) | 9 => .is (.pointer (some ⟨w.heap.size, 9, none⟩)) | 10 => .is (.int .i64 d.cls) | 11 => .is (.bool false) | 12 => .is (.bool false) | 13 => .any | 14 => .any | 15 => .any | 16 => .is (.bool false) | 17 => .is (.int .i64 (unl false 15)) | 18 => .is (.pointer (some ⟨w.heap.size + 1, 4, none⟩)) | 19 => .is (.slice C m k) | 20 => .is (.int .i64 m) | 21 => .is (.pointer (some ⟨w.heap.size, 8, none⟩)) | 22 => .is (.slice A n c) | 23 => .is (.int .i64 n) | 24 => .is (.bool (decide ((m : Int) ≤ n))) | 25 => .is (.int .i64 (unl (decide ((m : Int) ≤ n)) 2)) | 26 => .is (.pointer (some ⟨w.heap.size + 1, 4, none⟩)) | 27 => .is (.slice C m k) | 28 => .is (.func (.func 68) #[] #[.pointer (some ⟨w.heap.size, 0, none⟩)]) | 29 => .is (.bool ba) | 30 => .is (.int .i64 (unl ba 13)) | 31 => .is (.pointer (some ⟨w.heap.size + 1, 4, none⟩)) | 32 => .is (.slice C m k) | 33 => .is (.bool br) | 34 => .is (.bool !br) | 35 => .is (.int .i64 (unl (!br) 33)) | 36 => .nums [unl false 15, unl (decide ((m : Int) ≤ n)) 2, unl ba 13, unl (!br) 33] | 37 => .is (.int .i64 (firstL [unl false 15, unl (decide ((m : Int) ≤ n)) 2, unl ba 13, unl (!br) 33])) | 4 => .is (.int .i64 (firstL [unl false 15, unl (decide ((m : Int) ≤ n)) 2, unl ba 13, unl (!br) 33])) | _ => .any) : Tmp → Want) t)) (by kernel_rfl) [[], [7], [], [9], [8, 10], [11], [12], [12], [12], [12], [16], [], [18], [19], [], [21], [22], [20, 23], [24], [], [26], [], [27, 28], [29], [], [31], [32], [33], [34], [17, 25, 30, 35], [36], [37]] (by kernel_rfl) rfl (fun _ => Want.stab _) ⟨?_, ?_, ?_, ?_, ?_, ?_, ?_, ?_, ?_, ?_, ?_, ?_, ?_, ?_, ?_, ?_, ?_, ?_, ?_, ?_, ?_, ?_, ?_, ?_, ?_, ?_, ?_, ?_, ?_, ?_, ?_, ?_, trivial⟩ ?_
    · intro a' w' hs hk hd
      have i3 : a'.eval (.tmp 3) = .pointer (some ⟨w.heap.size + 1, 0, none⟩) := hs.keep 3 (by decide)
      rw [if_pos (by rfl)]
      rw [eval_get] at i3
      refine leaves_value (v := .pointer (some ⟨w.heap.size + 1, 1, none⟩)) (w' := w') ?_ (Upd.refl _ _) (fun d h => by cases h; rfl)
      go_simp
    · intro a' w' hs hk hd
      have i7 : a'.eval (.tmp 7) = .pointer (some ⟨w.heap.size + 1, 1, none⟩) := hd 7 (by simp)
      have xe1 := hk.cellAt e1
      rw [if_pos (by rfl)]
      rw [eval_get] at i7
      refine leaves_value (v := .int .i64 e.cls) (w' := w') ?_ (Upd.refl _ _) (fun d h => by cases h; rfl)
      go_simp
    · intro a' w' hs hk hd
      have i2 : a'.eval (.tmp 2) = .pointer (some ⟨w.heap.size, 0, none⟩) := hs.keep 2 (by decide)
      rw [if_pos (by rfl)]
      rw [eval_get] at i2
      refine leaves_value (v := .pointer (some ⟨w.heap.size, 9, none⟩)) (w' := w') ?_ (Upd.refl _ _) (fun d h => by cases h; rfl)
      go_simp
    · intro a' w' hs hk hd
      have i9 : a'.eval (.tmp 9) = .pointer (some ⟨w.heap.size, 9, none⟩) := hd 9 (by simp)
      have xd9 := hk.cellAt d9
      rw [if_pos (by rfl)]
      rw [eval_get] at i9
      refine leaves_value (v := .int .i64 d.cls) (w' := w') ?_ (Upd.refl _ _) (fun d h => by cases h; rfl)
      go_simp
    · intro a' w' hs hk hd
      have i8 : a'.eval (.tmp 8) = .int .i64 e.cls := hd 8 (by simp)
      have i10 : a'.eval (.tmp 10) = .int .i64 d.cls := hd 10 (by simp)
      rw [if_pos (by rfl)]
      rw [eval_get] at i8
      rw [eval_get] at i10
      refine leaves_call (f := 42) (args := #[.int .i64 e.cls, .int .i64 0, .int .i64 d.cls]) ?_ ((HIN1.out w').mono (by rintro en w'' ⟨rfl, hb⟩; exact ⟨_, rfl, hb, fun d h => by cases h; rfl⟩))
      go_simp
    · intro a' w' hs hk hd
      have i11 : a'.eval (.tmp 11) = .bool false := hd 11 (by simp)
      rw [if_pos (by rfl)]
      rw [eval_get] at i11
      refine leaves_value (v := .bool false) (w' := w') ?_ (Upd.refl _ _) (fun d h => by cases h; rfl)
      go_simp
    · intro a' w' hs hk hd
      have i12 : a'.eval (.tmp 12) = .bool false := hd 12 (by simp)
      rw [if_neg (by unfold Region.wanted; simp only []; rw [yielded_of (d := 12) rfl i12]; decide)]
      exact fun d h => by cases h; trivial
    · intro a' w' hs hk hd
      have i12 : a'.eval (.tmp 12) = .bool false := hd 12 (by simp)
      rw [if_neg (by unfold Region.wanted; simp only []; rw [yielded_of (d := 12) rfl i12]; decide)]
      exact fun d h => by cases h; trivial
    · intro a' w' hs hk hd
      have i12 : a'.eval (.tmp 12) = .bool false := hd 12 (by simp)
      rw [if_neg (by unfold Region.wanted; simp only []; rw [yielded_of (d := 12) rfl i12]; decide)]
      exact fun d h => by cases h; trivial
    · intro a' w' hs hk hd
      have i12 : a'.eval (.tmp 12) = .bool false := hd 12 (by simp)
      rw [if_pos (by rfl)]
      rw [eval_get] at i12
      refine leaves_value (v := .bool false) (w' := w') ?_ (Upd.refl _ _) (fun d h => by cases h; rfl)
      go_simp
    · intro a' w' hs hk hd
      have i16 : a'.eval (.tmp 16) = .bool false := hd 16 (by simp)
      rw [if_pos (by rfl)]
      rw [eval_get] at i16
      refine leaves_call (f := 41) (args := #[.bool false, .int .i64 15]) ?_ ((HUN.out w' false 15).mono (by rintro en w'' ⟨rfl, hb⟩; exact ⟨_, rfl, hb, fun d h => by cases h; rfl⟩))
      go_simp
    · intro a' w' hs hk hd
      have i3 : a'.eval (.tmp 3) = .pointer (some ⟨w.heap.size + 1, 0, none⟩) := hs.keep 3 (by decide)
      rw [if_pos (by rfl)]
      rw [eval_get] at i3
      refine leaves_value (v := .pointer (some ⟨w.heap.size + 1, 4, none⟩)) (w' := w') ?_ (Upd.refl _ _) (fun d h => by cases h; rfl)
      go_simp
    · intro a' w' hs hk hd
      have i18 : a'.eval (.tmp 18) = .pointer (some ⟨w.heap.size + 1, 4, none⟩) := hd 18 (by simp)
      have xe4 := hk.cellAt e4
      rw [if_pos (by rfl)]
      rw [eval_get] at i18
      refine leaves_value (v := .slice C m k) (w' := w') ?_ (Upd.refl _ _) (fun d h => by cases h; rfl)
      go_simp
    · intro a' w' hs hk hd
      have i19 : a'.eval (.tmp 19) = .slice C m k := hd 19 (by simp)
      rw [if_pos (by rfl)]
      rw [eval_get] at i19
      refine leaves_value (v := .int .i64 m) (w' := w') ?_ (Upd.refl _ _) (fun d h => by cases h; rfl)
      go_simp
    · intro a' w' hs hk hd
      have i2 : a'.eval (.tmp 2) = .pointer (some ⟨w.heap.size, 0, none⟩) := hs.keep 2 (by decide)
      rw [if_pos (by rfl)]
      rw [eval_get] at i2
      refine leaves_value (v := .pointer (some ⟨w.heap.size, 8, none⟩)) (w' := w') ?_ (Upd.refl _ _) (fun d h => by cases h; rfl)
      go_simp
    · intro a' w' hs hk hd
      have i21 : a'.eval (.tmp 21) = .pointer (some ⟨w.heap.size, 8, none⟩) := hd 21 (by simp)
      have xd8 := hk.cellAt d8
      rw [if_pos (by rfl)]
      rw [eval_get] at i21
      refine leaves_value (v := .slice A n c) (w' := w') ?_ (Upd.refl _ _) (fun d h => by cases h; rfl)
      go_simp
    · intro a' w' hs hk hd
      have i22 : a'.eval (.tmp 22) = .slice A n c := hd 22 (by simp)
      rw [if_pos (by rfl)]
      rw [eval_get] at i22
      refine leaves_value (v := .int .i64 n) (w' := w') ?_ (Upd.refl _ _) (fun d h => by cases h; rfl)
      go_simp
    · intro a' w' hs hk hd
      have i20 : a'.eval (.tmp 20) = .int .i64 m := hd 20 (by simp)
      have i23 : a'.eval (.tmp 23) = .int .i64 n := hd 23 (by simp)
      rw [if_pos (by rfl)]
      rw [eval_get] at i20
      rw [eval_get] at i23
      refine leaves_value (v := .bool (decide ((m : Int) ≤ n))) (w' := w') ?_ (Upd.refl _ _) (fun d h => by cases h; rfl)
      go_simp
    · intro a' w' hs hk hd
      have i24 : a'.eval (.tmp 24) = .bool (decide ((m : Int) ≤ n)) := hd 24 (by simp)
      rw [if_pos (by rfl)]
      rw [eval_get] at i24
      refine leaves_call (f := 41) (args := #[.bool (decide ((m : Int) ≤ n)), .int .i64 2]) ?_ ((HUN.out w' _ 2).mono (by rintro en w'' ⟨rfl, hb⟩; exact ⟨_, rfl, hb, fun d h => by cases h; rfl⟩))
      go_simp
    · intro a' w' hs hk hd
      have i3 : a'.eval (.tmp 3) = .pointer (some ⟨w.heap.size + 1, 0, none⟩) := hs.keep 3 (by decide)
      rw [if_pos (by rfl)]
      rw [eval_get] at i3
      refine leaves_value (v := .pointer (some ⟨w.heap.size + 1, 4, none⟩)) (w' := w') ?_ (Upd.refl _ _) (fun d h => by cases h; rfl)
      go_simp
    · intro a' w' hs hk hd
      have i26 : a'.eval (.tmp 26) = .pointer (some ⟨w.heap.size + 1, 4, none⟩) := hd 26 (by simp)
      have xe4 := hk.cellAt e4
      rw [if_pos (by rfl)]
      rw [eval_get] at i26
      refine leaves_value (v := .slice C m k) (w' := w') ?_ (Upd.refl _ _) (fun d h => by cases h; rfl)
      go_simp
    · intro a' w' hs hk hd
      have i5 : a'.eval (.tmp 5) = .func (.func 68) #[] #[.pointer (some ⟨w.heap.size, 0, none⟩)] := hs.keep 5 (by decide)
      rw [if_pos (by rfl)]
      rw [eval_get] at i5
      refine leaves_value (v := .func (.func 68) #[] #[.pointer (some ⟨w.heap.size, 0, none⟩)]) (w' := w') ?_ (Upd.refl _ _) (fun d h => by cases h; rfl)
      go_simp
    · intro a' w' hs hk hd
      have i27 : a'.eval (.tmp 27) = .slice C m k := hd 27 (by simp)
      have i28 : a'.eval (.tmp 28) = .func (.func 68) #[] #[.pointer (some ⟨w.heap.size, 0, none⟩)] := hd 28 (by simp)
      rw [if_pos (by rfl)]
      rw [eval_get] at i27
      rw [eval_get] at i28
      refine leaves_call (f := 71) (args := #[.slice C m k, .func (.func 68) #[] #[.pointer (some ⟨w.heap.size, 0, none⟩)]]) ?_ ((HALL.out w' hk).mono (by rintro en w'' ⟨rfl, hb⟩; exact ⟨_, rfl, hb, fun d h => by cases h; rfl⟩))
      go_simp
    · intro a' w' hs hk hd
      have i29 : a'.eval (.tmp 29) = .bool ba := hd 29 (by simp)
      rw [if_pos (by rfl)]
      rw [eval_get] at i29
      refine leaves_call (f := 41) (args := #[.bool ba, .int .i64 13]) ?_ ((HUN.out w' ba 13).mono (by rintro en w'' ⟨rfl, hb⟩; exact ⟨_, rfl, hb, fun d h => by cases h; rfl⟩))
      go_simp
    · intro a' w' hs hk hd
      have i3 : a'.eval (.tmp 3) = .pointer (some ⟨w.heap.size + 1, 0, none⟩) := hs.keep 3 (by decide)
      rw [if_pos (by rfl)]
      rw [eval_get] at i3
      refine leaves_value (v := .pointer (some ⟨w.heap.size + 1, 4, none⟩)) (w' := w') ?_ (Upd.refl _ _) (fun d h => by cases h; rfl)
      go_simp
    · intro a' w' hs hk hd
      have i31 : a'.eval (.tmp 31) = .pointer (some ⟨w.heap.size + 1, 4, none⟩) := hd 31 (by simp)
      have xe4 := hk.cellAt e4
      rw [if_pos (by rfl)]
      rw [eval_get] at i31
      refine leaves_value (v := .slice C m k) (w' := w') ?_ (Upd.refl _ _) (fun d h => by cases h; rfl)
      go_simp
    · intro a' w' hs hk hd
      have i32 : a'.eval (.tmp 32) = .slice C m k := hd 32 (by simp)
      rw [if_pos (by rfl)]
      rw [eval_get] at i32
      refine leaves_call (f := 72) (args := #[.slice C m k]) ?_ ((HTW.out w' hk).mono (by rintro en w'' ⟨rfl, hb⟩; exact ⟨_, rfl, hb, fun d h => by cases h; rfl⟩))
      go_simp
    · intro a' w' hs hk hd
      have i33 : a'.eval (.tmp 33) = .bool br := hd 33 (by simp)
      rw [if_pos (by rfl)]
      rw [eval_get] at i33
      refine leaves_value (v := .bool !br) (w' := w') ?_ (Upd.refl _ _) (fun d h => by cases h; rfl)
      go_simp
    · intro a' w' hs hk hd
      have i34 : a'.eval (.tmp 34) = .bool !br := hd 34 (by simp)
      rw [if_pos (by rfl)]
      rw [eval_get] at i34
      refine leaves_call (f := 41) (args := #[.bool !br, .int .i64 33]) ?_ ((HUN.out w' (!br) 33).mono (by rintro en w'' ⟨rfl, hb⟩; exact ⟨_, rfl, hb, fun d h => by cases h; rfl⟩))
      go_simp
    · intro a' w' hs hk hd
      have i17 : a'.eval (.tmp 17) = .int .i64 (unl false 15) := hd 17 (by simp)
      have i25 : a'.eval (.tmp 25) = .int .i64 (unl (decide ((m : Int) ≤ n)) 2) := hd 25 (by simp)
      have i30 : a'.eval (.tmp 30) = .int .i64 (unl ba 13) := hd 30 (by simp)
      have i35 : a'.eval (.tmp 35) = .int .i64 (unl (!br) 33) := hd 35 (by simp)
      rw [if_pos (by rfl)]
      rw [eval_get] at i17
      rw [eval_get] at i25
      rw [eval_get] at i30
      rw [eval_get] at i35
      refine leaves_value (v := .slice (some ⟨w'.heap.size, 0, none⟩) 4 4) (w' := w'.alloc (.cells #[.int .i64 (unl false 15), .int .i64 (unl (decide ((m : Int) ≤ n)) 2), .int .i64 (unl ba 13), .int .i64 (unl (!br) 33)] 34)) ?_ ((Upd.refl _ _).alloc _) (fun d h => by cases h; exact nums4 w' _ _ _ _ _)
      go_simp
    · intro a' w' hs hk hd
      have i36 : Nums w' (a'.eval (.tmp 36)) [unl false 15, unl (decide ((m : Int) ≤ n)) 2, unl ba 13, unl (!br) 33] := hd 36 (by simp)
      rw [if_pos (by rfl)]
      obtain ⟨xv, hxv⟩ : ∃ v, v = a'.eval (.tmp 36) := ⟨_, rfl⟩
      rw [← hxv] at i36
      have hxv' := hxv.symm
      rw [eval_get] at hxv'
      refine leaves_call (f := 40) (args := #[xv]) ?_ ((first_any w' xv _ i36 four_len).mono (by rintro en w'' ⟨rfl, hb⟩; exact ⟨_, rfl, hb, fun d h => by cases h; rfl⟩))
      clear i36 hxv
      go_simp
    · intro a' w' hs hk hd
      have i37 : a'.eval (.tmp 37) = .int .i64 (firstL [unl false 15, unl (decide ((m : Int) ≤ n)) 2, unl ba 13, unl (!br) 33]) := hd 37 (by simp)
      rw [if_pos (by rfl)]
      rw [eval_get] at i37
      refine leaves_value (v := .int .i64 (firstL [unl false 15, unl (decide ((m : Int) ≤ n)) 2, unl ba 13, unl (!br) 33])) (w' := w') ?_ (Upd.refl _ _) (fun d h => by cases h; rfl)
      go_simp
    · intro a' w' hs hk hd
      have h4 : a'.eval (.tmp 4) = .int .i64 (firstL [unl false 15, unl (decide ((m : Int) ≤ n)) 2, unl ba 13, unl (!br) 33]) := hd 31 _ 4 rfl rfl
      have HK := Lib.hid hk
      obtain ⟨tm, df⟩ := a'
      have hdf : df = [] := hs.defers
      subst hdf
      have H4 := Lib.hid h4
      clear hs hk hd h4
      go_wp2_with (fail)
      go_ret
      exact ⟨congrArg Ending.returned H4.out, HU1.out.trans HK.out⟩
  | true =>
    refine wp_region_specs (dl := [7, 8, 9, 10, 11, 12, 13, 14, 15, 16, 17, 18, 19, 20, 21, 22, 23, 24, 25, 26, 27, 28, 29, 30, 31, 32, 33, 34, 35, 36, 37, 4]) (spec := fun t => Want.ok (((fun t => match t with | 7 => .is (.pointer (some ⟨w.heap.size + 1, 1, none⟩)) | 8 => .is (.int .i64 e.cls) | 9 => .is (.pointer (some ⟨w.heap.size, 9, none⟩)) | 10 => .is (.int .i64 d.cls) | 11 => .is (.bool true) | 12 => .is (.bool true) | 13 => .is (.pointer (some ⟨w.heap.size + 1, 2, none⟩)) | 14 => .is (.int .i64 e.fam) | 15 => .is (.bool q2) | 16 => .is (.bool q2) | 17 => .is (.int .i64 (unl q2 15)) | 18 => .is (.pointer (some ⟨w.heap.size + 1, 4, none⟩)) | 19 => .is (.slice C m k) | 20 => .is (.int .i64 m) | 21 => .is (.pointer (some ⟨w.heap.size, 8, none⟩)) | 22 => .is (.slice A n c) | 23 => .is (.int .i64 n) | 24 => .is (.bool (decide ((m : Int) ≤ n))) | 25 => .is (.int .i64 (unl (decide ((m : Int) ≤ n)) 2)) | 26 => .is (.pointer (some ⟨w.heap.size + 1, 4, none⟩)) | 27 => .is (.slice C m k) | 28 => .is (.func (.func 68) #[] #[.pointer (some ⟨w.heap.size, 0, none⟩)]) | 29 => .is (.bool ba) | 30 => .is (.int .i64 (unl ba 13)) | 31 => .is (.pointer (some ⟨w.heap.size + 1, 4, none⟩)) | 32 => .is (.slice C m k) | 33 => .is (.bool br) | 34 => .is (.bool !br) | 35 => .is (.int .i64 (unl (!br) 33)) | 36 => .nums [unl q2 15, unl (decide ((m : Int) ≤ n)) 2, unl ba 13, unl (!br) 33] | 37 => .is (.int .i64 (firstL [unl q2 15, unl (decide ((m : Int) ≤ n)) 2, unl ba 13, unl (!br) 33])) | 4 => .is (.int .i64 (firstL [unl q2 15, unl (decide ((m : Int) ≤ n)) 2, unl ba 13, unl (!br) 33])) | _ => .any) : Tmp → Want) t)) (by kernel_rfl) [[], [7], [], [9], [8, 10], [11], [12], [12, 13], [12, 14], [12, 15], [16], [], [18], [19], [], [21], [22], [20, 23], [24], [], [26], [], [27, 28], [29], [], [31], [32], [33], [34], [17, 25, 30, 35], [36], [37]] (by kernel_rfl) rfl (fun _ => Want.stab _) ⟨?_, ?_, ?_, ?_, ?_, ?_, ?_, ?_, ?_, ?_, ?_, ?_, ?_, ?_, ?_, ?_, ?_, ?_, ?_, ?_, ?_, ?_, ?_, ?_, ?_, ?_, ?_, ?_, ?_, ?_, ?_, ?_, trivial⟩ ?_
    · intro a' w' hs hk hd
      have i3 : a'.eval (.tmp 3) = .pointer (some ⟨w.heap.size + 1, 0, none⟩) := hs.keep 3 (by decide)
      rw [if_pos (by rfl)]
      rw [eval_get] at i3
      refine leaves_value (v := .pointer (some ⟨w.heap.size + 1, 1, none⟩)) (w' := w') ?_ (Upd.refl _ _) (fun d h => by cases h; rfl)
      go_simp
    · intro a' w' hs hk hd
      have i7 : a'.eval (.tmp 7) = .pointer (some ⟨w.heap.size + 1, 1, none⟩) := hd 7 (by simp)
      have xe1 := hk.cellAt e1
      rw [if_pos (by rfl)]
      rw [eval_get] at i7
      refine leaves_value (v := .int .i64 e.cls) (w' := w') ?_ (Upd.refl _ _) (fun d h => by cases h; rfl)
      go_simp
    · intro a' w' hs hk hd
      have i2 : a'.eval (.tmp 2) = .pointer (some ⟨w.heap.size, 0, none⟩) := hs.keep 2 (by decide)
      rw [if_pos (by rfl)]
      rw [eval_get] at i2
      refine leaves_value (v := .pointer (some ⟨w.heap.size, 9, none⟩)) (w' := w') ?_ (Upd.refl _ _) (fun d h => by cases h; rfl)
      go_simp
    · intro a' w' hs hk hd
      have i9 : a'.eval (.tmp 9) = .pointer (some ⟨w.heap.size, 9, none⟩) := hd 9 (by simp)
      have xd9 := hk.cellAt d9
      rw [if_pos (by rfl)]
      rw [eval_get] at i9
      refine leaves_value (v := .int .i64 d.cls) (w' := w') ?_ (Upd.refl _ _) (fun d h => by cases h; rfl)
      go_simp
    · intro a' w' hs hk hd
      have i8 : a'.eval (.tmp 8) = .int .i64 e.cls := hd 8 (by simp)
      have i10 : a'.eval (.tmp 10) = .int .i64 d.cls := hd 10 (by simp)
      rw [if_pos (by rfl)]
      rw [eval_get] at i8
      rw [eval_get] at i10
      refine leaves_call (f := 42) (args := #[.int .i64 e.cls, .int .i64 0, .int .i64 d.cls]) ?_ ((HIN1.out w').mono (by rintro en w'' ⟨rfl, hb⟩; exact ⟨_, rfl, hb, fun d h => by cases h; rfl⟩))
      go_simp
    · intro a' w' hs hk hd
      have i11 : a'.eval (.tmp 11) = .bool true := hd 11 (by simp)
      rw [if_pos (by rfl)]
      rw [eval_get] at i11
      refine leaves_value (v := .bool true) (w' := w') ?_ (Upd.refl _ _) (fun d h => by cases h; rfl)
      go_simp
    · intro a' w' hs hk hd
      have i12 : a'.eval (.tmp 12) = .bool true := hd 12 (by simp)
      have i3 : a'.eval (.tmp 3) = .pointer (some ⟨w.heap.size + 1, 0, none⟩) := hs.keep 3 (by decide)
      rw [if_pos (by unfold Region.wanted; simp only []; rw [yielded_of (d := 12) rfl i12]; rfl)]
      rw [eval_get] at i12
      rw [eval_get] at i3
      refine leaves_value (v := .pointer (some ⟨w.heap.size + 1, 2, none⟩)) (w' := w') ?_ (Upd.refl _ _) (fun d h => by cases h; rfl)
      go_simp
    · intro a' w' hs hk hd
      have i12 : a'.eval (.tmp 12) = .bool true := hd 12 (by simp)
      have i13 : a'.eval (.tmp 13) = .pointer (some ⟨w.heap.size + 1, 2, none⟩) := hd 13 (by simp)
      have xe2 := hk.cellAt e2
      rw [if_pos (by unfold Region.wanted; simp only []; rw [yielded_of (d := 12) rfl i12]; rfl)]
      rw [eval_get] at i12
      rw [eval_get] at i13
      refine leaves_value (v := .int .i64 e.fam) (w' := w') ?_ (Upd.refl _ _) (fun d h => by cases h; rfl)
      go_simp
    · intro a' w' hs hk hd
      have i12 : a'.eval (.tmp 12) = .bool true := hd 12 (by simp)
      have i14 : a'.eval (.tmp 14) = .int .i64 e.fam := hd 14 (by simp)
      rw [if_pos (by unfold Region.wanted; simp only []; rw [yielded_of (d := 12) rfl i12]; rfl)]
      rw [eval_get] at i12
      rw [eval_get] at i14
      refine leaves_call (f := 42) (args := #[.int .i64 e.fam, .int .i64 0, .int .i64 1000000000]) ?_ ((HIN2.out w').mono (by rintro en w'' ⟨rfl, hb⟩; exact ⟨_, rfl, hb, fun d h => by cases h; rfl⟩))
      go_simp
    · intro a' w' hs hk hd
      have i12 : a'.eval (.tmp 12) = .bool true := hd 12 (by simp)
      have i15 : a'.eval (.tmp 15) = .bool q2 := hd 15 (by simp)
      rw [if_pos (by rfl)]
      rw [eval_get] at i12
      rw [eval_get] at i15
      refine leaves_value (v := .bool q2) (w' := w') ?_ (Upd.refl _ _) (fun d h => by cases h; rfl)
      go_simp
    · intro a' w' hs hk hd
      have i16 : a'.eval (.tmp 16) = .bool q2 := hd 16 (by simp)
      rw [if_pos (by rfl)]
      rw [eval_get] at i16
      refine leaves_call (f := 41) (args := #[.bool q2, .int .i64 15]) ?_ ((HUN.out w' q2 15).mono (by rintro en w'' ⟨rfl, hb⟩; exact ⟨_, rfl, hb, fun d h => by cases h; rfl⟩))
      go_simp
    · intro a' w' hs hk hd
      have i3 : a'.eval (.tmp 3) = .pointer (some ⟨w.heap.size + 1, 0, none⟩) := hs.keep 3 (by decide)
      rw [if_pos (by rfl)]
      rw [eval_get] at i3
      refine leaves_value (v := .pointer (some ⟨w.heap.size + 1, 4, none⟩)) (w' := w') ?_ (Upd.refl _ _) (fun d h => by cases h; rfl)
      go_simp
    · intro a' w' hs hk hd
      have i18 : a'.eval (.tmp 18) = .pointer (some ⟨w.heap.size + 1, 4, none⟩) := hd 18 (by simp)
      have xe4 := hk.cellAt e4
      rw [if_pos (by rfl)]
      rw [eval_get] at i18
      refine leaves_value (v := .slice C m k) (w' := w') ?_ (Upd.refl _ _) (fun d h => by cases h; rfl)
      go_simp
    · intro a' w' hs hk hd
      have i19 : a'.eval (.tmp 19) = .slice C m k := hd 19 (by simp)
      rw [if_pos (by rfl)]
      rw [eval_get] at i19
      refine leaves_value (v := .int .i64 m) (w' := w') ?_ (Upd.refl _ _) (fun d h => by cases h; rfl)
      go_simp
    · intro a' w' hs hk hd
      have i2 : a'.eval (.tmp 2) = .pointer (some ⟨w.heap.size, 0, none⟩) := hs.keep 2 (by decide)
      rw [if_pos (by rfl)]
      rw [eval_get] at i2
      refine leaves_value (v := .pointer (some ⟨w.heap.size, 8, none⟩)) (w' := w') ?_ (Upd.refl _ _) (fun d h => by cases h; rfl)
      go_simp
    · intro a' w' hs hk hd
      have i21 : a'.eval (.tmp 21) = .pointer (some ⟨w.heap.size, 8, none⟩) := hd 21 (by simp)
      have xd8 := hk.cellAt d8
      rw [if_pos (by rfl)]
      rw [eval_get] at i21
      refine leaves_value (v := .slice A n c) (w' := w') ?_ (Upd.refl _ _) (fun d h => by cases h; rfl)
      go_simp
    · intro a' w' hs hk hd
      have i22 : a'.eval (.tmp 22) = .slice A n c := hd 22 (by simp)
      rw [if_pos (by rfl)]
      rw [eval_get] at i22
      refine leaves_value (v := .int .i64 n) (w' := w') ?_ (Upd.refl _ _) (fun d h => by cases h; rfl)
      go_simp
    · intro a' w' hs hk hd
      have i20 : a'.eval (.tmp 20) = .int .i64 m := hd 20 (by simp)
      have i23 : a'.eval (.tmp 23) = .int .i64 n := hd 23 (by simp)
      rw [if_pos (by rfl)]
      rw [eval_get] at i20
      rw [eval_get] at i23
      refine leaves_value (v := .bool (decide ((m : Int) ≤ n))) (w' := w') ?_ (Upd.refl _ _) (fun d h => by cases h; rfl)
      go_simp
    · intro a' w' hs hk hd
      have i24 : a'.eval (.tmp 24) = .bool (decide ((m : Int) ≤ n)) := hd 24 (by simp)
      rw [if_pos (by rfl)]
      rw [eval_get] at i24
      refine leaves_call (f := 41) (args := #[.bool (decide ((m : Int) ≤ n)), .int .i64 2]) ?_ ((HUN.out w' _ 2).mono (by rintro en w'' ⟨rfl, hb⟩; exact ⟨_, rfl, hb, fun d h => by cases h; rfl⟩))
      go_simp
    · intro a' w' hs hk hd
      have i3 : a'.eval (.tmp 3) = .pointer (some ⟨w.heap.size + 1, 0, none⟩) := hs.keep 3 (by decide)
      rw [if_pos (by rfl)]
      rw [eval_get] at i3
      refine leaves_value (v := .pointer (some ⟨w.heap.size + 1, 4, none⟩)) (w' := w') ?_ (Upd.refl _ _) (fun d h => by cases h; rfl)
      go_simp
    · intro a' w' hs hk hd
      have i26 : a'.eval (.tmp 26) = .pointer (some ⟨w.heap.size + 1, 4, none⟩) := hd 26 (by simp)
      have xe4 := hk.cellAt e4
      rw [if_pos (by rfl)]
      rw [eval_get] at i26
      refine leaves_value (v := .slice C m k) (w' := w') ?_ (Upd.refl _ _) (fun d h => by cases h; rfl)
      go_simp
    · intro a' w' hs hk hd
      have i5 : a'.eval (.tmp 5) = .func (.func 68) #[] #[.pointer (some ⟨w.heap.size, 0, none⟩)] := hs.keep 5 (by decide)
      rw [if_pos (by rfl)]
      rw [eval_get] at i5
      refine leaves_value (v := .func (.func 68) #[] #[.pointer (some ⟨w.heap.size, 0, none⟩)]) (w' := w') ?_ (Upd.refl _ _) (fun d h => by cases h; rfl)
      go_simp
    · intro a' w' hs hk hd
      have i27 : a'.eval (.tmp 27) = .slice C m k := hd 27 (by simp)
      have i28 : a'.eval (.tmp 28) = .func (.func 68) #[] #[.pointer (some ⟨w.heap.size, 0, none⟩)] := hd 28 (by simp)
      rw [if_pos (by rfl)]
      rw [eval_get] at i27
      rw [eval_get] at i28
      refine leaves_call (f := 71) (args := #[.slice C m k, .func (.func 68) #[] #[.pointer (some ⟨w.heap.size, 0, none⟩)]]) ?_ ((HALL.out w' hk).mono (by rintro en w'' ⟨rfl, hb⟩; exact ⟨_, rfl, hb, fun d h => by cases h; rfl⟩))
      go_simp
    · intro a' w' hs hk hd
      have i29 : a'.eval (.tmp 29) = .bool ba := hd 29 (by simp)
      rw [if_pos (by rfl)]
      rw [eval_get] at i29
      refine leaves_call (f := 41) (args := #[.bool ba, .int .i64 13]) ?_ ((HUN.out w' ba 13).mono (by rintro en w'' ⟨rfl, hb⟩; exact ⟨_, rfl, hb, fun d h => by cases h; rfl⟩))
      go_simp
    · intro a' w' hs hk hd
      have i3 : a'.eval (.tmp 3) = .pointer (some ⟨w.heap.size + 1, 0, none⟩) := hs.keep 3 (by decide)
      rw [if_pos (by rfl)]
      rw [eval_get] at i3
      refine leaves_value (v := .pointer (some ⟨w.heap.size + 1, 4, none⟩)) (w' := w') ?_ (Upd.refl _ _) (fun d h => by cases h; rfl)
      go_simp
    · intro a' w' hs hk hd
      have i31 : a'.eval (.tmp 31) = .pointer (some ⟨w.heap.size + 1, 4, none⟩) := hd 31 (by simp)
      have xe4 := hk.cellAt e4
      rw [if_pos (by rfl)]
      rw [eval_get] at i31
      refine leaves_value (v := .slice C m k) (w' := w') ?_ (Upd.refl _ _) (fun d h => by cases h; rfl)
      go_simp
    · intro a' w' hs hk hd
      have i32 : a'.eval (.tmp 32) = .slice C m k := hd 32 (by simp)
      rw [if_pos (by rfl)]
      rw [eval_get] at i32
      refine leaves_call (f := 72) (args := #[.slice C m k]) ?_ ((HTW.out w' hk).mono (by rintro en w'' ⟨rfl, hb⟩; exact ⟨_, rfl, hb, fun d h => by cases h; rfl⟩))
      go_simp
    · intro a' w' hs hk hd
      have i33 : a'.eval (.tmp 33) = .bool br := hd 33 (by simp)
      rw [if_pos (by rfl)]
      rw [eval_get] at i33
      refine leaves_value (v := .bool !br) (w' := w') ?_ (Upd.refl _ _) (fun d h => by cases h; rfl)
      go_simp
    · intro a' w' hs hk hd
      have i34 : a'.eval (.tmp 34) = .bool !br := hd 34 (by simp)
      rw [if_pos (by rfl)]
      rw [eval_get] at i34
      refine leaves_call (f := 41) (args := #[.bool !br, .int .i64 33]) ?_ ((HUN.out w' (!br) 33).mono (by rintro en w'' ⟨rfl, hb⟩; exact ⟨_, rfl, hb, fun d h => by cases h; rfl⟩))
      go_simp
    · intro a' w' hs hk hd
      have i17 : a'.eval (.tmp 17) = .int .i64 (unl q2 15) := hd 17 (by simp)
      have i25 : a'.eval (.tmp 25) = .int .i64 (unl (decide ((m : Int) ≤ n)) 2) := hd 25 (by simp)
      have i30 : a'.eval (.tmp 30) = .int .i64 (unl ba 13) := hd 30 (by simp)
      have i35 : a'.eval (.tmp 35) = .int .i64 (unl (!br) 33) := hd 35 (by simp)
      rw [if_pos (by rfl)]
      rw [eval_get] at i17
      rw [eval_get] at i25
      rw [eval_get] at i30
      rw [eval_get] at i35
      refine leaves_value (v := .slice (some ⟨w'.heap.size, 0, none⟩) 4 4) (w' := w'.alloc (.cells #[.int .i64 (unl q2 15), .int .i64 (unl (decide ((m : Int) ≤ n)) 2), .int .i64 (unl ba 13), .int .i64 (unl (!br) 33)] 34)) ?_ ((Upd.refl _ _).alloc _) (fun d h => by cases h; exact nums4 w' _ _ _ _ _)
      go_simp
    · intro a' w' hs hk hd
      have i36 : Nums w' (a'.eval (.tmp 36)) [unl q2 15, unl (decide ((m : Int) ≤ n)) 2, unl ba 13, unl (!br) 33] := hd 36 (by simp)
      rw [if_pos (by rfl)]
      obtain ⟨xv, hxv⟩ : ∃ v, v = a'.eval (.tmp 36) := ⟨_, rfl⟩
      rw [← hxv] at i36
      have hxv' := hxv.symm
      rw [eval_get] at hxv'
      refine leaves_call (f := 40) (args := #[xv]) ?_ ((first_any w' xv _ i36 four_len).mono (by rintro en w'' ⟨rfl, hb⟩; exact ⟨_, rfl, hb, fun d h => by cases h; rfl⟩))
      clear i36 hxv
      go_simp
    · intro a' w' hs hk hd
      have i37 : a'.eval (.tmp 37) = .int .i64 (firstL [unl q2 15, unl (decide ((m : Int) ≤ n)) 2, unl ba 13, unl (!br) 33]) := hd 37 (by simp)
      rw [if_pos (by rfl)]
      rw [eval_get] at i37
      refine leaves_value (v := .int .i64 (firstL [unl q2 15, unl (decide ((m : Int) ≤ n)) 2, unl ba 13, unl (!br) 33])) (w' := w') ?_ (Upd.refl _ _) (fun d h => by cases h; rfl)
      go_simp
    · intro a' w' hs hk hd
      have h4 : a'.eval (.tmp 4) = .int .i64 (firstL [unl q2 15, unl (decide ((m : Int) ≤ n)) 2, unl ba 13, unl (!br) 33]) := hd 31 _ 4 rfl rfl
      have HK := Lib.hid hk
      obtain ⟨tm, df⟩ := a'
      have hdf : df = [] := hs.defers
      subst hdf
      have H4 := Lib.hid h4
      clear hs hk hd h4
      go_wp2_with (fail)
      go_ret
      exact ⟨congrArg Ending.returned H4.out, HU1.out.trans HK.out⟩
end Go.Proofs.Ytaejnhgnacgheaa
