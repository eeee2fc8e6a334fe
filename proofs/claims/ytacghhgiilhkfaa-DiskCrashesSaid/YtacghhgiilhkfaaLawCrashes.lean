/- DiskCrashes returns true, whatever its arguments. -/
import Derived.Test.YtacghhgiilhkfaaActs
namespace Go.Proofs.Ytacghhgiilhkfaa
set_option linter.unusedVariables false
open Go.RowKit

set_option maxHeartbeats 4000000 in
theorem crashes_true (W : World) (A0 : Option Addr) (n0 c0 : Nat) (l : List ActL) (hA : Acts W A0 n0 c0 l) (hm0 : n0 ≤ maxLen) (hL : ∀ a, a ∈ l → ActOk a)
    (A1 : Option Addr) (n1 c1 : Nat) (q1 : List Int) (hq1 : Rd W (.slice A1 n1 c1) 1 n1 (ivs q1)) (hqb1 : ∀ k, (Value.slice A1 n1 c1).ownBlock = some k → k < W.heap.size) (hqn1 : n1 ≤ maxLen)
    (t2 : Int) (h2 : in64 t2) :
    Calls Try.prog 3 #[.slice A0 n0 c0, .slice A1 n1 c1, .int .i64 t2] W (Sane W) := by
  have HA := Lib.hid hA
  have HL := Lib.hid hL
  have HQ1 := Lib.hid (And.intro hq1 hqb1)
  have HM1 := Lib.hid hqn1
  have HT := Lib.hid h2
  have hq5 : (survL t2).length ≤ maxLen := by have := survL_le t2; unfold maxLen; omega
  have HQ5 := Lib.hid hq5
  unfold maxLen at hm0
  have hnc := hA.2.1
  clear hA hL hq1 hqb1 hqn1 h2 hq5
  have H0 : Hid (Own W W []) := Lib.hid (Own.start W)
  go_enter Try.func3, Try.ntmps3
  go_wp2_with (first
    | (go_at_call 11; go_must (refine (sanity_any _).mono ?_; rintro e w1 ⟨rfl, hu⟩; have H1 := Lib.hid (H0.out.far hu); clear hu))
    | (go_at_call 12; show Calls _ _ _ w1 _; go_must (refine (own_new H1.out).mono ?_; rintro e w2 ⟨bd0, rfl, h⟩; have H2 : Hid (Own W w2 ([.disk bd0 newSt])) := Lib.hid (h); clear h))
    | (go_at_call 13; show Calls _ _ _ w2 _; go_must (refine (own_rnew H2.out).mono ?_; rintro e w3 ⟨bm0, rfl, h⟩; obtain ⟨bx, hbx⟩ : ∃ bx, w3.heap.size = bx := ⟨_, rfl⟩; have HD0 := Lib.hid (desk_new h); rw [hbx] at HD0; have e0 : (w3.alloc (.cells #[.pointer (some ⟨bd0, 0, none⟩), .pointer (some ⟨bm0, 0, none⟩)] 31)).cell? ⟨bx, 0, none⟩ = some (.pointer (some ⟨bd0, 0, none⟩)) := (by subst hbx; exact (Row.new_at w3 _ _ _ rfl).cell 0); clear h)))
  go_loopw [9] (fun v wr => ∃ (k : Nat) (s : DSt), k ≤ n0 ∧ k ≤ 20 ∧ v = .int .i64 k ∧ DeskAt W wr bx k s []) (fun v _ => n0 - (intOf v).toNat)
  case atStart => exact ⟨0, newSt, Nat.zero_le _, Nat.zero_le _, rfl, HD0.out⟩
  case round =>
    obtain ⟨k, s, hkn, hk15, rfl, hD⟩ := hrel
    have HD := Lib.hid hD
    clear hD
    by_cases hlt : k < n0
    · by_cases hlt2 : k < 20
      · obtain ⟨a, g, o, hal, rfl, ha0, ha1, ha2, ha3⟩ := HA.out.get hlt HD.out.upd
        obtain ⟨ok0, ok1, ok2, ok3⟩ := HL.out a hal
        have K := Lib.hid (And.intro ok0 (And.intro ok1 (And.intro ok2 ok3)))
        obtain ⟨ok01, ok02⟩ := ok0
        clear ok1 ok2 ok3 hal
        have hgw := World.block_lt_of_cell? _ _ ha0
        obtain ⟨j, hj, hj5⟩ := modI_nat a.kind 5 (by decide)
        have HJ := Lib.hid hj
        have KJ : Hid (in64 (j : Int)) := Lib.hid (by unfold in64; omega)
        clear hj
        go_wp2_with (first
          | (go_at_call 14; go_must (refine (mod_any _ _ _ (by decide) (by decide) (by omega) (by omega)).mono ?_; rintro e w' ⟨rfl, rfl⟩; rw [HJ.out]))
          | (go_at_call 15; go_must (refine (do_any (HD.out.far ((Upd.refl _ wr).alloc _)) (by omega) (a := ⟨j, a.off, a.n, a.text⟩) KJ.out K.out.2.1 K.out.2.2.1 K.out.2.2.2).mono ?_; rintro e w5 ⟨rfl, h⟩; have HE := Lib.hid h; clear h)))
        go_roundw
        case rel => exact ⟨k + 1, _, by omega, by omega, by go_num, HE.out⟩
        case measure => simp [intOf]; omega
      · obtain ⟨bd, bm, s', h, hS, hF, hF'⟩ := HD.out
        have h : Hid (Own W wr [.row bx 31 [.pointer (some ⟨bd, 0, none⟩), .pointer (some ⟨bm, 0, none⟩)], .disk bd s, .ref bm s']) := Lib.hid h
        obtain ⟨c4, c5⟩ := same_cells h.out
        have HF := Lib.hid hF
        have HF' := Lib.hid hF'
        have HS := Lib.hid hS
        clear hS hF hF' HD
        go_wp2_with fail
        have h := Lib.hid h.out.drew
        go_region_held3 (fun w' => w'.cell? ⟨bx, 0, none⟩ = some (.pointer (some ⟨bd, 0, none⟩)) ∧ w'.cell? ⟨bx, 1, none⟩ = some (.pointer (some ⟨bm, 0, none⟩)))
          (first | exact same_cells h.out | exact same_cells (h.out.far ((Upd.refl _ _).alloc _)))
          ((first
          | (go_at_call 16; go_must (refine (own_crash h.out 1 rfl HF.out (by omega) (h.out.rd HQ1.out.1 HQ1.out.2).1 (h.out.rd HQ1.out.1 HQ1.out.2).2 HM1.out).mono ?_; rintro e w6 ⟨c, rfl, h2⟩; have h : Hid (Own W w6 [.row bx 31 [.pointer (some ⟨bd, 0, none⟩), .pointer (some ⟨bm, 0, none⟩)], .disk c (crashedSt s q1), .disk bd s, .ref bm s']) := Lib.hid h2.swap; clear h2))
          | (go_at_call 17; go_must (refine (own_rcrash h.out 3 rfl HF'.out (by omega) (h.out.rd HQ1.out.1 HQ1.out.2).1 (h.out.rd HQ1.out.1 HQ1.out.2).2 HM1.out).mono ?_; rintro e w7 ⟨m2, rfl, h2⟩; have h : Hid (Own W w7 [.row bx 31 [.pointer (some ⟨bd, 0, none⟩), .pointer (some ⟨bm, 0, none⟩)], .ref m2 (crashedSt s' q1), .disk c (crashedSt s q1), .disk bd s, .ref bm s']) := Lib.hid h2.swap; clear h2))))
        obtain ⟨one, hone⟩ : ∃ x, w7.heap.size = x := ⟨_, rfl⟩
        have h : Hid (Own W (w7.alloc (.cells #[.pointer (some ⟨c, 0, none⟩), .pointer (some ⟨m2, 0, none⟩)] 31)) [.row bx 31 [.pointer (some ⟨bd, 0, none⟩), .pointer (some ⟨bm, 0, none⟩)], .row one 31 [.pointer (some ⟨c, 0, none⟩), .pointer (some ⟨m2, 0, none⟩)], .ref m2 (crashedSt s' q1), .disk c (crashedSt s q1), .disk bd s, .ref bm s']) := by subst hone; exact Lib.hid (h.out.newRow _ _).swap
        obtain ⟨d4, d5⟩ := same_cells h.out
        go_wp2_with fail
        have h := Lib.hid h.out.drew
        go_region_held3 (fun w' => w'.cell? ⟨bx, 0, none⟩ = some (.pointer (some ⟨bd, 0, none⟩)) ∧ w'.cell? ⟨bx, 1, none⟩ = some (.pointer (some ⟨bm, 0, none⟩)))
          (first | exact same_cells h.out | exact same_cells (h.out.far ((Upd.refl _ _).alloc _)))
          ((first
          | (go_at_call 18; go_must (refine (survive_any _ t2 HT.out).mono ?_; rintro e w8 ⟨A, cq, rfl, hr, hb, hu⟩; have h := Lib.hid (h.out.far hu); clear hu; have HR := Lib.hid (And.intro hr hb); clear hr hb))
          | (go_at_call 16; go_must (refine (own_crash h.out 4 rfl HF.out (by omega) HR.out.1 HR.out.2 HQ5.out).mono ?_; rintro e w9 ⟨c2, rfl, h2⟩; have h : Hid (Own W w9 [.row bx 31 [.pointer (some ⟨bd, 0, none⟩), .pointer (some ⟨bm, 0, none⟩)], .disk c2 (crashedSt s (survL t2)), .row one 31 [.pointer (some ⟨c, 0, none⟩), .pointer (some ⟨m2, 0, none⟩)], .ref m2 (crashedSt s' q1), .disk c (crashedSt s q1), .disk bd s, .ref bm s']) := Lib.hid h2.swap; clear h2))
          | (go_at_call 17; go_must (refine (own_rcrash h.out 6 rfl HF'.out (by omega) HR.out.1 HR.out.2 HQ5.out).mono ?_; rintro e w10 ⟨m4, rfl, h2⟩; have h : Hid (Own W w10 [.row bx 31 [.pointer (some ⟨bd, 0, none⟩), .pointer (some ⟨bm, 0, none⟩)], .ref m4 (crashedSt s' (survL t2)), .disk c2 (crashedSt s (survL t2)), .row one 31 [.pointer (some ⟨c, 0, none⟩), .pointer (some ⟨m2, 0, none⟩)], .ref m2 (crashedSt s' q1), .disk c (crashedSt s q1), .disk bd s, .ref bm s']) := Lib.hid h2.swap; clear h2))))
        obtain ⟨two, htwo⟩ : ∃ x, w10.heap.size = x := ⟨_, rfl⟩
        have h : Hid (Own W (w10.alloc (.cells #[.pointer (some ⟨c2, 0, none⟩), .pointer (some ⟨m4, 0, none⟩)] 31)) [.row two 31 [.pointer (some ⟨c2, 0, none⟩), .pointer (some ⟨m4, 0, none⟩)], .row bx 31 [.pointer (some ⟨bd, 0, none⟩), .pointer (some ⟨bm, 0, none⟩)], .ref m4 (crashedSt s' (survL t2)), .disk c2 (crashedSt s (survL t2)), .row one 31 [.pointer (some ⟨c, 0, none⟩), .pointer (some ⟨m2, 0, none⟩)], .ref m2 (crashedSt s' q1), .disk c (crashedSt s q1), .disk bd s, .ref bm s']) := by subst htwo; exact Lib.hid (h.out.newRow _ _)
        have HD1 : Hid (DeskAt W (w10.alloc (.cells #[.pointer (some ⟨c2, 0, none⟩), .pointer (some ⟨m4, 0, none⟩)] 31)) one 0 (crashedSt s q1) [.row two 31 [.pointer (some ⟨c2, 0, none⟩), .pointer (some ⟨m4, 0, none⟩)], .row bx 31 [.pointer (some ⟨bd, 0, none⟩), .pointer (some ⟨bm, 0, none⟩)], .ref m4 (crashedSt s' (survL t2)), .disk c2 (crashedSt s (survL t2)), .disk bd s, .ref bm s']) := Lib.hid ⟨c, m2, crashedSt s' q1, ((h.out.front 5 rfl).front 6 rfl).front 6 rfl, HS.out.crashed _, HF.out.crashed _, HF'.out.crashed _⟩
        clear h
        go_wp2_with (first
          | (go_at_call 19; show Calls _ _ _ w12 _; go_must (refine (same_any HD3.out).mono ?_; rintro e w13 ⟨rfl, h⟩; have HD4 := Lib.hid h; clear h))
          | (go_at_call 19; show Calls _ _ _ w11 _; go_must (refine (same_any HD2.out).mono ?_; rintro e w12 ⟨rfl, xc, xm, xs, h, _⟩; have HD3 : Hid (DeskAt W w12 bx k s _) := Lib.hid ⟨bd, bm, s', ((h.front 8 rfl).front 8 rfl).front 8 rfl, HS.out, HF.out, HF'.out⟩; clear h))
          | (go_at_call 19; go_must (refine (same_any HD1.out).mono ?_; rintro e w11 ⟨rfl, yc, ym, ys, h, _⟩; have HD2 : Hid (DeskAt W w11 two 0 (crashedSt s (survL t2)) _) := Lib.hid ⟨c2, m4, crashedSt s' (survL t2), ((h.front 5 rfl).front 6 rfl).front 5 rfl, HS.out.crashed _, HF.out.crashed _, HF'.out.crashed _⟩; clear h)))
        go_ret
        exact ⟨rfl, HD4.out.upd⟩
    · obtain ⟨bd, bm, s', h, hS, hF, hF'⟩ := HD.out
      have h : Hid (Own W wr [.row bx 31 [.pointer (some ⟨bd, 0, none⟩), .pointer (some ⟨bm, 0, none⟩)], .disk bd s, .ref bm s']) := Lib.hid h
      obtain ⟨c4, c5⟩ := same_cells h.out
      have HF := Lib.hid hF
      have HF' := Lib.hid hF'
      have HS := Lib.hid hS
      clear hS hF hF' HD
      go_wp2_with fail
      have h := Lib.hid h.out.drew
      go_region_held3 (fun w' => w'.cell? ⟨bx, 0, none⟩ = some (.pointer (some ⟨bd, 0, none⟩)) ∧ w'.cell? ⟨bx, 1, none⟩ = some (.pointer (some ⟨bm, 0, none⟩)))
        (first | exact same_cells h.out | exact same_cells (h.out.far ((Upd.refl _ _).alloc _)))
        ((first
        | (go_at_call 16; go_must (refine (own_crash h.out 1 rfl HF.out (by omega) (h.out.rd HQ1.out.1 HQ1.out.2).1 (h.out.rd HQ1.out.1 HQ1.out.2).2 HM1.out).mono ?_; rintro e w6 ⟨c, rfl, h2⟩; have h : Hid (Own W w6 [.row bx 31 [.pointer (some ⟨bd, 0, none⟩), .pointer (some ⟨bm, 0, none⟩)], .disk c (crashedSt s q1), .disk bd s, .ref bm s']) := Lib.hid h2.swap; clear h2))
        | (go_at_call 17; go_must (refine (own_rcrash h.out 3 rfl HF'.out (by omega) (h.out.rd HQ1.out.1 HQ1.out.2).1 (h.out.rd HQ1.out.1 HQ1.out.2).2 HM1.out).mono ?_; rintro e w7 ⟨m2, rfl, h2⟩; have h : Hid (Own W w7 [.row bx 31 [.pointer (some ⟨bd, 0, none⟩), .pointer (some ⟨bm, 0, none⟩)], .ref m2 (crashedSt s' q1), .disk c (crashedSt s q1), .disk bd s, .ref bm s']) := Lib.hid h2.swap; clear h2))))
      obtain ⟨one, hone⟩ : ∃ x, w7.heap.size = x := ⟨_, rfl⟩
      have h : Hid (Own W (w7.alloc (.cells #[.pointer (some ⟨c, 0, none⟩), .pointer (some ⟨m2, 0, none⟩)] 31)) [.row bx 31 [.pointer (some ⟨bd, 0, none⟩), .pointer (some ⟨bm, 0, none⟩)], .row one 31 [.pointer (some ⟨c, 0, none⟩), .pointer (some ⟨m2, 0, none⟩)], .ref m2 (crashedSt s' q1), .disk c (crashedSt s q1), .disk bd s, .ref bm s']) := by subst hone; exact Lib.hid (h.out.newRow _ _).swap
      obtain ⟨d4, d5⟩ := same_cells h.out
      go_wp2_with fail
      have h := Lib.hid h.out.drew
      go_region_held3 (fun w' => w'.cell? ⟨bx, 0, none⟩ = some (.pointer (some ⟨bd, 0, none⟩)) ∧ w'.cell? ⟨bx, 1, none⟩ = some (.pointer (some ⟨bm, 0, none⟩)))
        (first | exact same_cells h.out | exact same_cells (h.out.far ((Upd.refl _ _).alloc _)))
        ((first
        | (go_at_call 18; go_must (refine (survive_any _ t2 HT.out).mono ?_; rintro e w8 ⟨A, cq, rfl, hr, hb, hu⟩; have h := Lib.hid (h.out.far hu); clear hu; have HR := Lib.hid (And.intro hr hb); clear hr hb))
        | (go_at_call 16; go_must (refine (own_crash h.out 4 rfl HF.out (by omega) HR.out.1 HR.out.2 HQ5.out).mono ?_; rintro e w9 ⟨c2, rfl, h2⟩; have h : Hid (Own W w9 [.row bx 31 [.pointer (some ⟨bd, 0, none⟩), .pointer (some ⟨bm, 0, none⟩)], .disk c2 (crashedSt s (survL t2)), .row one 31 [.pointer (some ⟨c, 0, none⟩), .pointer (some ⟨m2, 0, none⟩)], .ref m2 (crashedSt s' q1), .disk c (crashedSt s q1), .disk bd s, .ref bm s']) := Lib.hid h2.swap; clear h2))
        | (go_at_call 17; go_must (refine (own_rcrash h.out 6 rfl HF'.out (by omega) HR.out.1 HR.out.2 HQ5.out).mono ?_; rintro e w10 ⟨m4, rfl, h2⟩; have h : Hid (Own W w10 [.row bx 31 [.pointer (some ⟨bd, 0, none⟩), .pointer (some ⟨bm, 0, none⟩)], .ref m4 (crashedSt s' (survL t2)), .disk c2 (crashedSt s (survL t2)), .row one 31 [.pointer (some ⟨c, 0, none⟩), .pointer (some ⟨m2, 0, none⟩)], .ref m2 (crashedSt s' q1), .disk c (crashedSt s q1), .disk bd s, .ref bm s']) := Lib.hid h2.swap; clear h2))))
      obtain ⟨two, htwo⟩ : ∃ x, w10.heap.size = x := ⟨_, rfl⟩
      have h : Hid (Own W (w10.alloc (.cells #[.pointer (some ⟨c2, 0, none⟩), .pointer (some ⟨m4, 0, none⟩)] 31)) [.row two 31 [.pointer (some ⟨c2, 0, none⟩), .pointer (some ⟨m4, 0, none⟩)], .row bx 31 [.pointer (some ⟨bd, 0, none⟩), .pointer (some ⟨bm, 0, none⟩)], .ref m4 (crashedSt s' (survL t2)), .disk c2 (crashedSt s (survL t2)), .row one 31 [.pointer (some ⟨c, 0, none⟩), .pointer (some ⟨m2, 0, none⟩)], .ref m2 (crashedSt s' q1), .disk c (crashedSt s q1), .disk bd s, .ref bm s']) := by subst htwo; exact Lib.hid (h.out.newRow _ _)
      have HD1 : Hid (DeskAt W (w10.alloc (.cells #[.pointer (some ⟨c2, 0, none⟩), .pointer (some ⟨m4, 0, none⟩)] 31)) one 0 (crashedSt s q1) [.row two 31 [.pointer (some ⟨c2, 0, none⟩), .pointer (some ⟨m4, 0, none⟩)], .row bx 31 [.pointer (some ⟨bd, 0, none⟩), .pointer (some ⟨bm, 0, none⟩)], .ref m4 (crashedSt s' (survL t2)), .disk c2 (crashedSt s (survL t2)), .disk bd s, .ref bm s']) := Lib.hid ⟨c, m2, crashedSt s' q1, ((h.out.front 5 rfl).front 6 rfl).front 6 rfl, HS.out.crashed _, HF.out.crashed _, HF'.out.crashed _⟩
      clear h
      go_wp2_with (first
        | (go_at_call 19; show Calls _ _ _ w12 _; go_must (refine (same_any HD3.out).mono ?_; rintro e w13 ⟨rfl, h⟩; have HD4 := Lib.hid h; clear h))
        | (go_at_call 19; show Calls _ _ _ w11 _; go_must (refine (same_any HD2.out).mono ?_; rintro e w12 ⟨rfl, xc, xm, xs, h, _⟩; have HD3 : Hid (DeskAt W w12 bx k s _) := Lib.hid ⟨bd, bm, s', ((h.front 8 rfl).front 8 rfl).front 8 rfl, HS.out, HF.out, HF'.out⟩; clear h))
        | (go_at_call 19; go_must (refine (same_any HD1.out).mono ?_; rintro e w11 ⟨rfl, yc, ym, ys, h, _⟩; have HD2 : Hid (DeskAt W w11 two 0 (crashedSt s (survL t2)) _) := Lib.hid ⟨c2, m4, crashedSt s' (survL t2), ((h.front 5 rfl).front 6 rfl).front 5 rfl, HS.out.crashed _, HF.out.crashed _, HF'.out.crashed _⟩; clear h)))
      go_ret
      exact ⟨rfl, HD4.out.upd⟩
end Go.Proofs.Ytacghhgiilhkfaa
