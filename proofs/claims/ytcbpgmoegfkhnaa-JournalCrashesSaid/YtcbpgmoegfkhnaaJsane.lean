/- The journal's examples, that every law checks first. -/
import Derived.Test.YtcbpgmoegfkhnaaJkit
namespace Go.Proofs.Ytcbpgmoegfkhnaa
set_option linter.unusedVariables false
open Go.RowKit

theorem dead_fail (s : DSt) : Dead (failSt s 0) := ⟨rfl, rfl⟩
theorem sl_rd {W w : World} {m : List Item} (h : Own W w m) (i : Nat) {v : Value} {L : List (List UInt8)} (hi : m[i]? = some (.sl v 9 1 (ssv L))) : Rd w v 1 L.length (ssv L) := by
  obtain ⟨n2, hrd, _⟩ := sl_read h i hi
  obtain rfl : n2 = L.length := by have := hrd.1; simp [ssv] at this; omega
  exact hrd

set_option maxHeartbeats 4000000 in
set_option maxRecDepth 20000 in
theorem sanity_any (w : World) : Calls Try.prog 9 #[] w (Sane w) := by
  have H0 := Lib.hid (Own.start w)
  have ho1 : openedL (syncedSt newSt).now = some ((jOpen 0 []).p, []) := opened_empty
  obtain ⟨s2, e2, k2, o2, f2⟩ := append_ok (r := [97]) (Calm.synced newSt) ho1 (JGood.opened ho1) (by simp [jOpen, lensI]) rfl
  have g2 : JGood (jNext (jOpen 0 []) [97]) ([] ++ [[97]]) := (JGood.opened ho1).next [97]
  have d2 : Fit 5 s2 := by have := Fit.new.synced.append (jOpen 0 []) [97] (by simp [jOpen, lensI]); rw [e2] at this; exact this
  obtain ⟨j2, hj2⟩ : ∃ j2, j2 = jNext (jOpen 0 []) [97] := ⟨_, rfl⟩
  rw [← hj2] at e2 o2 g2
  have b2 : j2.bytes = 17 := by rw [hj2]; simp [jNext, jOpen, lensI]
  obtain ⟨s3, e3, k3, o3, f3⟩ := append_ok (r := []) k2 o2 g2 (by simp [b2]) f2
  have g3 := g2.next []
  have d3 : Fit 9 s3 := by have := d2.append j2 [] (by omega); rw [e3] at this; exact this
  obtain ⟨j3, hj3⟩ : ∃ j3, j3 = jNext j2 [] := ⟨_, rfl⟩
  rw [← hj3] at e3 o3 g3
  have b3 : j3.bytes = 33 := by rw [hj3]; simp [jNext, b2]
  have m3 : j3.many = 2 := g3.many
  simp only [List.nil_append, List.cons_append] at o2 o3 g2 g3
  have oc : openedL (crashedSt s3 []).now = some (j3.p, [[97], []]) := by rw [crash_calm k3]; exact o3
  have df : Fit 10 (failSt s3 0) := d3.fail (by decide) (by decide)
  have e4 := append_dead (r := [98]) (k3.fail 0) o3 g3 (by simp [b3]) (dead_fail s3)
  have e5 := append_broken (s := failSt s3 0) (j := { j3 with broken := true }) [99] rfl
  have oe : openedL (crashedSt (failSt s3 0) []).now = some (j3.p, [[97], []]) := by rw [crash_calm (k3.fail 0)]; exact o3
  have t0 : JFit (jOpen 0 []) := (JGood.opened ho1).fit ho1 (by simp) (by simp [lensI])
  have t2 : JFit j2 := g2.fit o2 (by simp) (by simp [lensI])
  have t3 : JFit j3 := g3.fit o3 (by simp) (by simp [lensI])
  have t4 : JFit { j3 with broken := true } := ⟨t3.m0, t3.m1, t3.b0, t3.b1, t3.p⟩
  obtain ⟨j4, hj4⟩ : ∃ j4 : JSt, j4 = { j3 with broken := true } := ⟨_, rfl⟩
  rw [← hj4] at e4 e5 t4
  have E2 := Lib.hid e2
  have E3 := Lib.hid e3
  have E4 := Lib.hid e4
  have E5 := Lib.hid e5
  have OC := Lib.hid oc
  have OE := Lib.hid oe
  have D2 := Lib.hid d2
  have D3 := Lib.hid d3
  have DF := Lib.hid df
  have M3 := Lib.hid m3
  have T0 := Lib.hid t0
  have T2 := Lib.hid t2
  have T3 := Lib.hid t3
  have T4 := Lib.hid t4
  clear ho1 e2 k2 o2 f2 g2 d2 hj2 b2 e3 k3 o3 f3 g3 d3 hj3 b3 m3 oc df e4 e5 oe t0 t2 t3 t4 hj4
  go_enter Try.func9, Try.ntmps9
  go_wp2_with (first
    | (go_at_call 10; show Calls _ _ _ w _; go_must (refine (own_new H0.out).mono ?_; rintro e w1 ⟨b1, rfl, h⟩; have H1 : Hid (Own w w1 ([.disk b1 newSt])) := Lib.hid h; clear h))
    | (go_at_call 11; show Calls _ _ _ w1 _; go_must (refine (open_ok H1.out 0 rfl Fit.new (by decide) rfl (p := 0) (L := []) opened_empty).mono ?_; rintro e w2 ⟨bj, A0, c0, rfl, h⟩; have H2 : Hid (Own w w2 [.row bj 61 (jS b1 (jOpen 0 [])), .disk b1 (syncedSt newSt)]) := Lib.hid h.drop1; clear h))
    | (go_at_call 13; show Calls _ _ _ w2 _; go_must (have hc := append_any H2.out 0 rfl Fit.new.synced (by decide) T0.out [97] (by decide); rw [E2.out] at hc; refine hc.mono ?_; rintro e w3 ⟨rfl, h⟩; have H3 : Hid (Own w w3 [.row bj 61 (jS b1 j2), .disk b1 s2]) := Lib.hid h; clear h hc))
    | (go_at_call 13; show Calls _ _ _ w3 _; go_must (have hc := append_any H3.out 0 rfl D2.out (by decide) T2.out [] (by decide); rw [E3.out] at hc; refine hc.mono ?_; rintro e w4 ⟨rfl, h⟩; have H4 : Hid (Own w w4 [.row bj 61 (jS b1 j3), .disk b1 s3]) := Lib.hid h; clear h hc))
    | (go_at_call 16; show Calls _ _ _ w4 _; go_must (have hc := many_any H4.out; rw [M3.out] at hc; refine hc.mono ?_; rintro e w' ⟨rfl, rfl⟩; clear hc))
    | (go_at_call 17; show Calls _ _ _ w4 _; go_must (refine (own_crash_none H4.out 1 rfl D3.out (by decide)).mono ?_; rintro e w5 ⟨b2, rfl, h⟩; have H5 : Hid (Own w w5 [.disk b2 (crashedSt s3 []), .row bj 61 (jS b1 j3), .disk b1 s3]) := Lib.hid h; clear h))
    | (go_at_call 11; show Calls _ _ _ w5 _; go_must (refine (open_ok H5.out 0 rfl (D3.out.crashed []) (by decide) rfl OC.out).mono ?_; rintro e w6 ⟨bk, A1, c1, rfl, h⟩; have H6 : Hid (Own w w6 [.row bj 61 (jS b1 j3), .sl (.slice A1 2 c1) 9 1 (ssv [[97], []]), .disk b1 s3]) := Lib.hid h.tail.drop1.swap; clear h))
    | (go_at_call 19; show Calls _ _ _ w6 _; go_must (refine (own_fail H6.out 2 rfl 0).mono ?_; rintro e w7 ⟨rfl, h⟩; have H7 : Hid (Own w w7 [.row bj 61 (jS b1 j3), .sl (.slice A1 2 c1) 9 1 (ssv [[97], []]), .disk b1 (failSt s3 0)]) := Lib.hid h; clear h))
    | (go_at_call 13; show Calls _ _ _ w7 _; go_must (have hc := append_any H7.out 1 rfl DF.out (by decide) T3.out [98] (by decide); rw [E4.out] at hc; refine hc.mono ?_; rintro e w8 ⟨rfl, h⟩; have H8 : Hid (Own w w8 [.row bj 61 (jS b1 j4), .sl (.slice A1 2 c1) 9 1 (ssv [[97], []]), .disk b1 (failSt s3 0)]) := Lib.hid h; clear h hc))
    | (go_at_call 13; show Calls _ _ _ w8 _; go_must (have hc := append_any H8.out 1 rfl DF.out (by decide) T4.out [99] (by decide); rw [E5.out] at hc; refine hc.mono ?_; rintro e w9 ⟨rfl, h⟩; have H9 : Hid (Own w w9 [.row bj 61 (jS b1 j4), .sl (.slice A1 2 c1) 9 1 (ssv [[97], []]), .disk b1 (failSt s3 0)]) := Lib.hid h; clear h hc))
    | (go_at_call 17; show Calls _ _ _ w9 _; go_must (refine (own_crash_none H9.out 2 rfl DF.out (by decide)).mono ?_; rintro e w10 ⟨b3, rfl, h⟩; have H10 : Hid (Own w w10 [.disk b3 (crashedSt (failSt s3 0) []), .sl (.slice A1 2 c1) 9 1 (ssv [[97], []]), .disk b1 (failSt s3 0)]) := Lib.hid h.drop1; clear h))
    | (go_at_call 11; show Calls _ _ _ w10 _; go_must (refine (open_ok H10.out 0 rfl (DF.out.crashed []) (by decide) rfl OE.out).mono ?_; rintro e w11 ⟨bl, A2, c2, rfl, h⟩; have H11 : Hid (Own w w11 [.sl (.slice A2 2 c2) 9 1 (ssv [[97], []]), .sl (.slice A1 2 c1) 9 1 (ssv [[97], []])]) := Lib.hid (h.tail.drop1.erase 2); clear h))
    | (go_at_call 20; show Calls _ _ _ (World.alloc w11 _) _; go_must (have h0 := H11.out.newRow 9 #[.string ⟨#[97]⟩, .string ⟨#[]⟩]; have hc := rsame_any _ (.slice A2 2 c2) (.slice (some ⟨w11.heap.size, 0, none⟩) 2 2) [[97], []] [[97], []] (sl_rd h0 1 rfl) (Rd.of_new (cs := #[.string ⟨#[97]⟩, .string ⟨#[]⟩]) (h0.row 0 rfl) rfl) (by decide) (by decide); rw [show decide (([[97], []] : List (List UInt8)) = [[97], []]) = true from rfl] at hc; refine hc.mono ?_; clear hc; rintro e w12 ⟨rfl, hu⟩; have H12 := Lib.hid (h0.tail.far hu); clear h0 hu))
    | (go_at_call 20; show Calls _ _ _ (World.alloc w12 _) _; go_must (have h0 := H12.out.newRow 9 #[.string ⟨#[97]⟩, .string ⟨#[]⟩]; have hc := rsame_any _ (.slice A1 2 c1) (.slice (some ⟨w12.heap.size, 0, none⟩) 2 2) [[97], []] [[97], []] (sl_rd h0 2 rfl) (Rd.of_new (cs := #[.string ⟨#[97]⟩, .string ⟨#[]⟩]) (h0.row 0 rfl) rfl) (by decide) (by decide); rw [show decide (([[97], []] : List (List UInt8)) = [[97], []]) = true from rfl] at hc; refine hc.mono ?_; clear hc; rintro e w13 ⟨rfl, hu⟩; have H13 := Lib.hid (h0.tail.far hu); clear h0 hu)))
  go_ret
  exact ⟨rfl, H13.out.upd⟩
end Go.Proofs.Ytcbpgmoegfkhnaa
