/- journal: steps. -/
import Derived.Test.YtcbpgmoegfkhnaaJapp
import Derived.Defers
import Derived.Recover
namespace Go.Proofs.Ytcbpgmoegfkhnaa
set_option linter.unusedSimpArgs false
set_option linter.unusedVariables false
open Go.RowKit

def stepsSt (s : DSt) (o1 : Int) (t1 : List UInt8) (o2 : Int) (t2 : List UInt8) : Int × DSt :=
  if (writeSt s o1 t1).1 ≠ 0 then writeSt s o1 t1
  else if (syncSt (writeSt s o1 t1).2).1 ≠ 0 then syncSt (writeSt s o1 t1).2
  else if (writeSt (syncSt (writeSt s o1 t1).2).2 o2 t2).1 ≠ 0 then writeSt (syncSt (writeSt s o1 t1).2).2 o2 t2
  else syncSt (writeSt (syncSt (writeSt s o1 t1).2).2 o2 t2).2

theorem steps1_d (bs be bj : Nat) (r : Int) (w : World) (c0 : w.cell? ⟨bs, 0, none⟩ = some (.pointer (some ⟨bj, 0, none⟩))) (c1 : w.cell? ⟨bj, 4, none⟩ = some (.bool false)) (c2 : w.cell? ⟨be, 0, none⟩ = some (.int .i64 r)) (f1 : w.frozen? ⟨bj, 4, none⟩ = false) :
    CallsD Try.prog 39 #[.pointer (some ⟨bs, 0, none⟩), .pointer (some ⟨be, 0, none⟩)] .returning w fun e u' w' => u' = .returning ∧ (e = .returned (.tuple #[]) ∧ w' = (w.setCell ⟨bj, 4, none⟩ (.bool (r != 0))).drew) := by
  go_enter_d Try.func39, Try.ntmps39
  go_wp2
  go_region
  all_goals go_end0
  all_goals exact ⟨rfl, rfl⟩

/-- Append's two writes as function values -/
def appF (bx br bn : Nat) : List Value := [.func (.func 29) #[] #[.pointer (some ⟨bx, 0, none⟩), .pointer (some ⟨br, 0, none⟩)], .func (.func 31) #[] #[.pointer (some ⟨bx, 0, none⟩), .pointer (some ⟨bn, 0, none⟩)]]

section
variable {W w : World} {bl bn br bx bj bd next en : Nat} {r : List UInt8} {many bytes : Int} {broken : Bool} {M : List Item}

/-- what there is in steps' loop -/
def stepM (be bs bl bn br bx bj bd next : Nat) (r : List UInt8) (many bytes : Int) (en : Nat) (cur : Int) (M : List Item) : List Item :=
  appM bn br bx bj bd next r many bytes en false (.row be 28 [.int .i64 cur] :: .row bs 27 [.pointer (some ⟨bj, 0, none⟩)] :: .row bl 49 (appF bx br bn) :: M)
theorem step_cells {be bs : Nat} {cur : Int} (h : Own W w (stepM be bs bl bn br bx bj bd next r many bytes en cur M)) :
    w.cell? ⟨be, 0, none⟩ = some (.int .i64 cur) ∧ w.cell? ⟨bs, 0, none⟩ = some (.pointer (some ⟨bj, 0, none⟩)) ∧ w.cell? ⟨bj, 0, none⟩ = some (.pointer (some ⟨bd, 0, none⟩)) ∧ w.cell? ⟨bj, 4, none⟩ = some (.bool false) ∧
    w.frozen? ⟨be, 0, none⟩ = false ∧ w.frozen? ⟨bj, 4, none⟩ = false ∧
    w.cell? ⟨bl, 0, none⟩ = some (.func (.func 29) #[] #[.pointer (some ⟨bx, 0, none⟩), .pointer (some ⟨br, 0, none⟩)]) ∧ w.cell? ⟨bl, 1, none⟩ = some (.func (.func 31) #[] #[.pointer (some ⟨bx, 0, none⟩), .pointer (some ⟨bn, 0, none⟩)]) :=
  ⟨(h.row 4 rfl).cell 0, (h.row 5 rfl).cell 0, (h.row 3 rfl).cell 0, (h.row 3 rfl).cell 4, (h.row 4 rfl).frozen (j := 0) (by simp), (h.row 3 rfl).frozen (j := 4) (by simp [jrow]), (h.row 6 rfl).cell 0, (h.row 6 rfl).cell 1⟩
theorem step_set {be bs : Nat} {cur : Int} {i : Nat} {a b : Item} (h : Own W w (stepM be bs bl bn br bx bj bd next r many bytes en cur ((M.set i a).set i b))) : Own W w (stepM be bs bl bn br bx bj bd next r many bytes en cur (M.set i b)) := by
  rwa [List.set_set] at h
theorem step_cur {be bs : Nat} {cur : Int} (x : Int) (h : Own W w (stepM be bs bl bn br bx bj bd next r many bytes en cur M)) : Own W (w.setCell ⟨be, 0, none⟩ (.int .i64 x)) (stepM be bs bl bn br bx bj bd next r many bytes en x M) :=
  h.setRow 4 rfl 0 (.int .i64 x)
theorem step_zero {be bs : Nat} {x : Int} (hx : x = 0) (h : Own W w (stepM be bs bl bn br bx bj bd next r many bytes en x M)) : Own W w (stepM be bs bl bn br bx bj bd next r many bytes en 0 M) := by
  subst hx
  exact h
def StepsPost (W : World) (bl bn br bx bj bd next : Nat) (r : List UInt8) (many bytes : Int) (en : Nat) (M : List Item) (i : Nat) (x : Int) (s : DSt) (e : Ending) (w' : World) : Prop :=
  e = .returned (.int .i64 x) ∧ Own W w' (appM bn br bx bj bd next r many bytes en (x != 0) (.row bl 49 (appF bx br bn) :: M.set i (.disk bd s)))
/-- The deferred closure's store, and the end. -/
theorem step_fin {be bs : Nat} {x : Int} {i : Nat} {s : DSt} (h : Own W w (stepM be bs bl bn br bx bj bd next r many bytes en x (M.set i (.disk bd s)))) :
    StepsPost W bl bn br bx bj bd next r many bytes en M i x s (.returned (.int .i64 x)) (w.setCell ⟨bj, 4, none⟩ (.bool (x != 0))).drew :=
  ⟨rfl, (((h.setRow 3 rfl 4 (.bool (x != 0))).erase 4).erase 4).drew⟩

set_option maxHeartbeats 8000000 in
set_option maxRecDepth 20000 in
theorem steps_any (h : Own W w (appM bn br bx bj bd next r many bytes en false (.row bl 49 (appF bx br bn) :: M))) (i : Nat) {s : DSt} (hi : M[i]? = some (.disk bd s)) {n : Nat} (hf : Fit n s) (hn : n ≤ 1490)
    (hl : r.length ≤ 16777000) (he : en ≤ 33554432) {q : Nat} (hq : next = 64 + q) (hq2 : q ≤ 33554432) :
    Calls Try.prog 28 #[.pointer (some ⟨bj, 0, none⟩), .slice (some ⟨bl, 0, none⟩) 2 2] w
      (StepsPost W bl bn br bx bj bd next r many bytes en M i (stepsSt s en (numL r.length 4 ++ r) 0 (numL q 8)).1 (stepsSt s en (numL r.length 4 ++ r) 0 (numL q 8)).2) := by
  have hmf : ∀ (fn : Fn) (first cap : Array Value) (w : World), (Instr.makeFunc fn first cap).run Try.prog w = .ok (.func fn first cap) w := fun _ _ _ _ => rfl
  obtain ⟨g, hg⟩ : ∃ g, w.heap.size = g := ⟨_, rfl⟩
  have h0 := (h.newRow_at hg 27 #[.pointer (some ⟨bj, 0, none⟩)]).newRow_at (g := g + 1) (by rw [World.size_alloc, hg]) 28 #[.int .i64 0]
  have h0' : Own W _ (stepM (g + 1) g bl bn br bx bj bd next r many bytes en 0 M) := (((h0.front 5 rfl).front 5 rfl).front 5 rfl).front 5 rfl
  have H0 := Lib.hid h0'
  obtain ⟨x1, s1, e1⟩ : ∃ x s', writeSt s en (numL r.length 4 ++ r) = (x, s') := ⟨_, _, rfl⟩
  obtain ⟨x2, s2, e2⟩ : ∃ x s', syncSt s1 = (x, s') := ⟨_, _, rfl⟩
  obtain ⟨x3, s3, e3⟩ : ∃ x s', writeSt s2 0 (numL q 8) = (x, s') := ⟨_, _, rfl⟩
  obtain ⟨x4, s4, e4⟩ : ∃ x s', syncSt s3 = (x, s') := ⟨_, _, rfl⟩
  have f1 : Fit (n + 1) s1 := by have := hf.write (off := en) (l := numL r.length 4 ++ r) (by rw [List.length_append, numL_length]; omega); rwa [e1] at this
  have f2 : Fit (n + 2) s2 := by have := f1.sync; rwa [e2] at this
  have f3 : Fit (n + 3) s3 := by have := f2.write (off := 0) (l := numL q 8) (by rw [numL_length]; omega); rwa [e3] at this
  have hP : ∀ (x : Int) (s' : DSt), (x1 ≠ 0 ∧ x = x1 ∧ s' = s1) ∨ (x1 = 0 ∧ x2 ≠ 0 ∧ x = x2 ∧ s' = s2) ∨ (x1 = 0 ∧ x2 = 0 ∧ x3 ≠ 0 ∧ x = x3 ∧ s' = s3) ∨ (x1 = 0 ∧ x2 = 0 ∧ x3 = 0 ∧ x = x4 ∧ s' = s4) → stepsSt s en (numL r.length 4 ++ r) 0 (numL q 8) = (x, s') := by
    intro x s' hx
    unfold stepsSt
    rw [e1]; dsimp only
    rw [e2]; dsimp only
    rw [e3]; dsimp only
    rw [e4]
    rcases hx with ⟨a, rfl, rfl⟩ | ⟨a, b, rfl, rfl⟩ | ⟨a, b, c, rfl, rfl⟩ | ⟨a, b, c, rfl, rfl⟩
    · rw [if_pos a]
    · rw [if_neg (by omega), if_pos b]
    · rw [if_neg (by omega), if_neg (by omega), if_pos c]
    · rw [if_neg (by omega), if_neg (by omega), if_neg (by omega)]
  have E1 := Lib.hid e1
  have E2 := Lib.hid e2
  have E3 := Lib.hid e3
  have E4 := Lib.hid e4
  have HP := Lib.hid hP
  have hi1 : (M.set i (.disk bd s1))[i]? = some (.disk bd s1) := List.getElem?_set_self (List.getElem?_eq_some_iff.1 hi).1
  have hi2 : (M.set i (.disk bd s2))[i]? = some (.disk bd s2) := List.getElem?_set_self (List.getElem?_eq_some_iff.1 hi).1
  have hi3 : (M.set i (.disk bd s3))[i]? = some (.disk bd s3) := List.getElem?_set_self (List.getElem?_eq_some_iff.1 hi).1
  have hi2 : (M.set i (.disk bd s2))[i]? = some (.disk bd s2) := List.getElem?_set_self (List.getElem?_eq_some_iff.1 hi).1
  have hi3 : (M.set i (.disk bd s3))[i]? = some (.disk bd s3) := List.getElem?_set_self (List.getElem?_eq_some_iff.1 hi).1
  clear e1 e2 e3 e4 hP h h0 h0'
  go_enter_defers Try.func28, Try.ntmps28
  go_wp2
  go_loopw [6, 10] (fun f v wr => ∃ k : Nat, v = .int .i64 k ∧ ((k = 0 ∧ Own W wr (stepM (g + 1) g bl bn br bx bj bd next r many bytes en 0 M)) ∨ (k = 1 ∧ x1 = 0 ∧ x2 = 0 ∧ Own W wr (stepM (g + 1) g bl bn br bx bj bd next r many bytes en 0 (M.set i (.disk bd s2)))) ∨
      (k = 2 ∧ x1 = 0 ∧ x2 = 0 ∧ x3 = 0 ∧ x4 = 0 ∧ Own W wr (stepM (g + 1) g bl bn br bx bj bd next r many bytes en 0 (M.set i (.disk bd s4)))))) (fun _ v _ => 2 - (intOf v).toNat)
  case atStart => exact ⟨0, rfl, .inl ⟨rfl, H0.out⟩⟩
  case round =>
    obtain ⟨k, rfl, ⟨rfl, hO⟩ | ⟨rfl, hx1, hx2, hO⟩ | ⟨rfl, hx1, hx2, hx3, hx4, hO⟩⟩ := hrel
    · have H := Lib.hid hO
      obtain ⟨c1, c2, c3, c4, c5, c6, c7, c8⟩ := step_cells hO
      clear hO H0
      by_cases hxa : x1 = 0
      · have hba : (x1 != 0) = false := by simpa using hxa
        have HA := Lib.hid hxa
        clear hxa
        by_cases hxb : x2 = 0
        · have hbb : (x2 != 0) = false := by simpa using hxb
          have HB := Lib.hid hxb
          clear hxb
          go_wp2_with (first
            | (go_at_call 29; go_must (have hc := app1_any H.out (i + 3) hi hf (by omega) hl he; rw [E1.out] at hc; refine hc.mono ?_; clear hc; rintro e w1 ⟨rfl, h1⟩; have H1 : Hid (Own W w1 (stepM (g + 1) g bl bn br bx bj bd next r many bytes en 0 (M.set i (.disk bd s1)))) := Lib.hid h1; clear h1; obtain ⟨c1, c2, c3, c4, c5, c6, c7, c8⟩ := step_cells H1.out; have HC := Lib.hid (step_cur x1 H1.out); obtain ⟨d1, d2, d3, d4, d5, d6, d7, d8⟩ := step_cells HC.out))
            | (go_at_call 22; go_must (have hc := own_sync HC.out (i + 7) hi1 f1 (by omega); rw [E2.out] at hc; refine hc.mono ?_; clear hc; rintro e w2 ⟨rfl, h1⟩; have H2 : Hid (Own W w2 (stepM (g + 1) g bl bn br bx bj bd next r many bytes en x1 (M.set i (.disk bd s2)))) := Lib.hid (step_set h1); clear h1; obtain ⟨b1, b2, b3, b4, b5, b6, b7, b8⟩ := step_cells H2.out; have HD := Lib.hid (step_cur x2 H2.out); obtain ⟨a1, a2, a3, a4, a5, a6, a7, a8⟩ := step_cells HD.out)))
          go_roundw
          case rel => exact ⟨1, rfl, .inr (.inl ⟨rfl, HA.out, HB.out, step_zero HB.out HD.out⟩)⟩
          case measure => simp [intOf]
        · have hbb : (x2 != 0) = true := by simpa using hxb
          have HB := Lib.hid hxb
          clear hxb
          go_wp2_with (first
            | (go_at_call 29; go_must (have hc := app1_any H.out (i + 3) hi hf (by omega) hl he; rw [E1.out] at hc; refine hc.mono ?_; clear hc; rintro e w1 ⟨rfl, h1⟩; have H1 : Hid (Own W w1 (stepM (g + 1) g bl bn br bx bj bd next r many bytes en 0 (M.set i (.disk bd s1)))) := Lib.hid h1; clear h1; obtain ⟨c1, c2, c3, c4, c5, c6, c7, c8⟩ := step_cells H1.out; have HC := Lib.hid (step_cur x1 H1.out); obtain ⟨d1, d2, d3, d4, d5, d6, d7, d8⟩ := step_cells HC.out))
            | (go_at_call 22; go_must (have hc := own_sync HC.out (i + 7) hi1 f1 (by omega); rw [E2.out] at hc; refine hc.mono ?_; clear hc; rintro e w2 ⟨rfl, h1⟩; have H2 : Hid (Own W w2 (stepM (g + 1) g bl bn br bx bj bd next r many bytes en x1 (M.set i (.disk bd s2)))) := Lib.hid (step_set h1); clear h1; obtain ⟨b1, b2, b3, b4, b5, b6, b7, b8⟩ := step_cells H2.out; have HD := Lib.hid (step_cur x2 H2.out); obtain ⟨a1, a2, a3, a4, a5, a6, a7, a8⟩ := step_cells HD.out)))
          have hO := step_cur x2 HD.out
          obtain ⟨d1, d2, d3, d4, d5, d6, d7, d8⟩ := step_cells hO
          have hB := (hO.setRow 3 rfl 4 (.bool (x2 != 0))).drew
          have dB := (hB.row 4 rfl).cell 0
          refine leaves_cons (f := 39) (args := #[.pointer (some ⟨g, 0, none⟩), .pointer (some ⟨g + 1, 0, none⟩)]) (by simp) (by simp [go_sem]) ?_
          refine (steps1_d g (g + 1) bj x2 _ d2 d4 d1 d6).mono ?_
          rintro e u1 w9 ⟨rfl, rfl, rfl⟩
          refine ⟨.int .i64 x2, ?_, ?_⟩
          · simp [results, Try.f28, go_sem, dB, d1]
          · rw [HP.out x2 s2 (.inr (.inl ⟨HA.out, HB.out, rfl, rfl⟩))]
            exact step_fin hO
      · have hba : (x1 != 0) = true := by simpa using hxa
        have HA := Lib.hid hxa
        clear hxa
        go_wp2_with (first
          | (go_at_call 29; go_must (have hc := app1_any H.out (i + 3) hi hf (by omega) hl he; rw [E1.out] at hc; refine hc.mono ?_; clear hc; rintro e w1 ⟨rfl, h1⟩; have H1 : Hid (Own W w1 (stepM (g + 1) g bl bn br bx bj bd next r many bytes en 0 (M.set i (.disk bd s1)))) := Lib.hid h1; clear h1; obtain ⟨c1, c2, c3, c4, c5, c6, c7, c8⟩ := step_cells H1.out; have HC := Lib.hid (step_cur x1 H1.out); obtain ⟨d1, d2, d3, d4, d5, d6, d7, d8⟩ := step_cells HC.out)))
        have hO := step_cur x1 HC.out
        obtain ⟨d1, d2, d3, d4, d5, d6, d7, d8⟩ := step_cells hO
        have hB := (hO.setRow 3 rfl 4 (.bool (x1 != 0))).drew
        have dB := (hB.row 4 rfl).cell 0
        refine leaves_cons (f := 39) (args := #[.pointer (some ⟨g, 0, none⟩), .pointer (some ⟨g + 1, 0, none⟩)]) (by simp) (by simp [go_sem]) ?_
        refine (steps1_d g (g + 1) bj x1 _ d2 d4 d1 d6).mono ?_
        rintro e u1 w9 ⟨rfl, rfl, rfl⟩
        refine ⟨.int .i64 x1, ?_, ?_⟩
        · simp [results, Try.f28, go_sem, dB, d1]
        · rw [HP.out x1 s1 (.inl ⟨HA.out, rfl, rfl⟩)]
          exact step_fin hO
    · have H := Lib.hid hO
      obtain ⟨c1, c2, c3, c4, c5, c6, c7, c8⟩ := step_cells hO
      clear hO H0
      have HZ1 := Lib.hid hx1
      have HZ2 := Lib.hid hx2
      clear hx1 hx2
      by_cases hxa : x3 = 0
      · have hba : (x3 != 0) = false := by simpa using hxa
        have HA := Lib.hid hxa
        clear hxa
        by_cases hxb : x4 = 0
        · have hbb : (x4 != 0) = false := by simpa using hxb
          have HB := Lib.hid hxb
          clear hxb
          go_wp2_with (first
            | (go_at_call 31; go_must (have hc := app2_any H.out (i + 3) hi2 f2 (by omega) hq hq2; rw [E3.out] at hc; refine hc.mono ?_; clear hc; rintro e w1 ⟨rfl, h1⟩; have H1 : Hid (Own W w1 (stepM (g + 1) g bl bn br bx bj bd next r many bytes en 0 (M.set i (.disk bd s3)))) := Lib.hid (step_set h1); clear h1; obtain ⟨c1, c2, c3, c4, c5, c6, c7, c8⟩ := step_cells H1.out; have HC := Lib.hid (step_cur x3 H1.out); obtain ⟨d1, d2, d3, d4, d5, d6, d7, d8⟩ := step_cells HC.out))
            | (go_at_call 22; go_must (have hc := own_sync HC.out (i + 7) hi3 f3 (by omega); rw [E4.out] at hc; refine hc.mono ?_; clear hc; rintro e w2 ⟨rfl, h1⟩; have H2 : Hid (Own W w2 (stepM (g + 1) g bl bn br bx bj bd next r many bytes en x3 (M.set i (.disk bd s4)))) := Lib.hid (step_set h1); clear h1; obtain ⟨b1, b2, b3, b4, b5, b6, b7, b8⟩ := step_cells H2.out; have HD := Lib.hid (step_cur x4 H2.out); obtain ⟨a1, a2, a3, a4, a5, a6, a7, a8⟩ := step_cells HD.out)))
          go_roundw
          case rel => exact ⟨2, rfl, .inr (.inr ⟨rfl, HZ1.out, HZ2.out, HA.out, HB.out, step_zero HB.out HD.out⟩)⟩
          case measure => simp [intOf]
        · have hbb : (x4 != 0) = true := by simpa using hxb
          have HB := Lib.hid hxb
          clear hxb
          go_wp2_with (first
            | (go_at_call 31; go_must (have hc := app2_any H.out (i + 3) hi2 f2 (by omega) hq hq2; rw [E3.out] at hc; refine hc.mono ?_; clear hc; rintro e w1 ⟨rfl, h1⟩; have H1 : Hid (Own W w1 (stepM (g + 1) g bl bn br bx bj bd next r many bytes en 0 (M.set i (.disk bd s3)))) := Lib.hid (step_set h1); clear h1; obtain ⟨c1, c2, c3, c4, c5, c6, c7, c8⟩ := step_cells H1.out; have HC := Lib.hid (step_cur x3 H1.out); obtain ⟨d1, d2, d3, d4, d5, d6, d7, d8⟩ := step_cells HC.out))
            | (go_at_call 22; go_must (have hc := own_sync HC.out (i + 7) hi3 f3 (by omega); rw [E4.out] at hc; refine hc.mono ?_; clear hc; rintro e w2 ⟨rfl, h1⟩; have H2 : Hid (Own W w2 (stepM (g + 1) g bl bn br bx bj bd next r many bytes en x3 (M.set i (.disk bd s4)))) := Lib.hid (step_set h1); clear h1; obtain ⟨b1, b2, b3, b4, b5, b6, b7, b8⟩ := step_cells H2.out; have HD := Lib.hid (step_cur x4 H2.out); obtain ⟨a1, a2, a3, a4, a5, a6, a7, a8⟩ := step_cells HD.out)))
          have hO := step_cur x4 HD.out
          obtain ⟨d1, d2, d3, d4, d5, d6, d7, d8⟩ := step_cells hO
          have hB := (hO.setRow 3 rfl 4 (.bool (x4 != 0))).drew
          have dB := (hB.row 4 rfl).cell 0
          refine leaves_cons (f := 39) (args := #[.pointer (some ⟨g, 0, none⟩), .pointer (some ⟨g + 1, 0, none⟩)]) (by simp) (by simp [go_sem]) ?_
          refine (steps1_d g (g + 1) bj x4 _ d2 d4 d1 d6).mono ?_
          rintro e u1 w9 ⟨rfl, rfl, rfl⟩
          refine ⟨.int .i64 x4, ?_, ?_⟩
          · simp [results, Try.f28, go_sem, dB, d1]
          · rw [HP.out x4 s4 (.inr (.inr (.inr ⟨HZ1.out, HZ2.out, HA.out, rfl, rfl⟩)))]
            exact step_fin hO
      · have hba : (x3 != 0) = true := by simpa using hxa
        have HA := Lib.hid hxa
        clear hxa
        go_wp2_with (first
          | (go_at_call 31; go_must (have hc := app2_any H.out (i + 3) hi2 f2 (by omega) hq hq2; rw [E3.out] at hc; refine hc.mono ?_; clear hc; rintro e w1 ⟨rfl, h1⟩; have H1 : Hid (Own W w1 (stepM (g + 1) g bl bn br bx bj bd next r many bytes en 0 (M.set i (.disk bd s3)))) := Lib.hid (step_set h1); clear h1; obtain ⟨c1, c2, c3, c4, c5, c6, c7, c8⟩ := step_cells H1.out; have HC := Lib.hid (step_cur x3 H1.out); obtain ⟨d1, d2, d3, d4, d5, d6, d7, d8⟩ := step_cells HC.out)))
        have hO := step_cur x3 HC.out
        obtain ⟨d1, d2, d3, d4, d5, d6, d7, d8⟩ := step_cells hO
        have hB := (hO.setRow 3 rfl 4 (.bool (x3 != 0))).drew
        have dB := (hB.row 4 rfl).cell 0
        refine leaves_cons (f := 39) (args := #[.pointer (some ⟨g, 0, none⟩), .pointer (some ⟨g + 1, 0, none⟩)]) (by simp) (by simp [go_sem]) ?_
        refine (steps1_d g (g + 1) bj x3 _ d2 d4 d1 d6).mono ?_
        rintro e u1 w9 ⟨rfl, rfl, rfl⟩
        refine ⟨.int .i64 x3, ?_, ?_⟩
        · simp [results, Try.f28, go_sem, dB, d1]
        · rw [HP.out x3 s3 (.inr (.inr (.inl ⟨HZ1.out, HZ2.out, HA.out, rfl, rfl⟩)))]
          exact step_fin hO
    · have H := Lib.hid hO
      obtain ⟨c1, c2, c3, c4, c5, c6, c7, c8⟩ := step_cells hO
      have HZ := Lib.hid (And.intro hx1 (And.intro hx2 (And.intro hx3 hx4)))
      clear hO H0 hx1 hx2 hx3 hx4
      go_wp2
      have hO := step_cur 0 H.out
      obtain ⟨d1, d2, d3, d4, d5, d6, d7, d8⟩ := step_cells hO
      have hB := (hO.setRow 3 rfl 4 (.bool (0 != 0))).drew
      have dB := (hB.row 4 rfl).cell 0
      refine leaves_cons (f := 39) (args := #[.pointer (some ⟨g, 0, none⟩), .pointer (some ⟨g + 1, 0, none⟩)]) (by simp) (by simp [go_sem]) ?_
      refine (steps1_d g (g + 1) bj 0 _ d2 d4 d1 d6).mono ?_
      rintro e u1 w9 ⟨rfl, rfl, rfl⟩
      refine ⟨.int .i64 0, ?_, ?_⟩
      · simp [results, Try.f28, go_sem, dB, d1]
      · rw [HP.out 0 s4 (.inr (.inr (.inr ⟨HZ.out.1, HZ.out.2.1, HZ.out.2.2.1, HZ.out.2.2.2.symm, rfl⟩)))]
        exact step_fin hO
end
end Go.Proofs.Ytcbpgmoegfkhnaa
