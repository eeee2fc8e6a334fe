/- journal: Append. -/
import Derived.Test.YtcbpgmoegfkhnaaJsteps
import Derived.Deep.QuietTactic
import Derived.BigQuiet
namespace Go.Proofs.Ytcbpgmoegfkhnaa
set_option linter.unusedVariables false
open Go.RowKit

structure JSt where
  many : Int
  bytes : Int
  p : Nat
  broken : Bool
def jS (bd : Nat) (j : JSt) : List Value := jrow bd j.many j.bytes (64 + j.p) j.broken
def appendSt (s : DSt) (j : JSt) (r : List UInt8) : Int × DSt × JSt :=
  if j.broken then (70, s, j)
  else if 16777216 < j.bytes + r.length + 16 + 256 then (2, s, j)
  else if (stepsSt s (64 + j.p : Nat) (numL r.length 4 ++ r) 0 (numL (j.p + 4 + r.length) 8)).1 ≠ 0 then
    ((stepsSt s (64 + j.p : Nat) (numL r.length 4 ++ r) 0 (numL (j.p + 4 + r.length) 8)).1, (stepsSt s (64 + j.p : Nat) (numL r.length 4 ++ r) 0 (numL (j.p + 4 + r.length) 8)).2, { j with broken := true })
  else (0, (stepsSt s (64 + j.p : Nat) (numL r.length 4 ++ r) 0 (numL (j.p + 4 + r.length) 8)).2, { many := j.many + 1, bytes := j.bytes + r.length + 16, p := j.p + 4 + r.length, broken := false })
structure JFit (j : JSt) : Prop where
  m0 : 0 ≤ j.many
  m1 : j.many ≤ 1000000000
  b0 : 0 ≤ j.bytes
  b1 : j.bytes ≤ 1000000000000000
  p : j.p ≤ 16777216
def AppPost (W : World) (bj bd : Nat) (M : List Item) (i : Nat) (x : Int) (s : DSt) (j : JSt) (e : Ending) (w' : World) : Prop :=
  e = .returned (.int .i64 x) ∧ Own W w' (.row bj 61 (jS bd j) :: M.set i (.disk bd s))

section
variable {W w : World} {bj bd : Nat} {M : List Item} {j : JSt}

theorem app_open {r : List UInt8} {g : Nat} (h : Own W w (.row bj 61 (jS bd j) :: M)) (hg : w.heap.size = g) :
    Own W ((w.alloc (.cells #[.pointer (some ⟨bj, 0, none⟩)] 27)).alloc (.cells #[.string ⟨r.toArray⟩] 9)) (.row (g + 1) 9 [.string ⟨r.toArray⟩] :: .row g 27 [.pointer (some ⟨bj, 0, none⟩)] :: .row bj 61 (jS bd j) :: M) :=
  (h.newRow_at hg 27 #[.pointer (some ⟨bj, 0, none⟩)]).newRow_at (by rw [World.size_alloc, hg]) 9 #[.string ⟨r.toArray⟩]
theorem app_head {r : List UInt8} {g : Nat} (h : Own W w (.row (g + 1) 9 [.string ⟨r.toArray⟩] :: .row g 27 [.pointer (some ⟨bj, 0, none⟩)] :: .row bj 61 (jS bd j) :: M)) :
    w.cell? ⟨g, 0, none⟩ = some (.pointer (some ⟨bj, 0, none⟩)) ∧ w.cell? ⟨g + 1, 0, none⟩ = some (.string ⟨r.toArray⟩) ∧ w.cell? ⟨bj, 0, none⟩ = some (.pointer (some ⟨bd, 0, none⟩)) ∧ w.cell? ⟨bj, 1, none⟩ = some (.int .i64 j.many) ∧
    w.cell? ⟨bj, 2, none⟩ = some (.int .i64 j.bytes) ∧ w.cell? ⟨bj, 3, none⟩ = some (.int .i64 (64 + (j.p : Int))) ∧ w.cell? ⟨bj, 4, none⟩ = some (.bool j.broken) :=
  ⟨(h.row 1 rfl).cell 0, (h.row 0 rfl).cell 0, (h.row 2 rfl).cell 0, (h.row 2 rfl).cell 1, (h.row 2 rfl).cell 2, by have := (h.row 2 rfl).cell 3; simpa [jS, jrow] using this, (h.row 2 rfl).cell 4⟩

set_option maxHeartbeats 4000000 in
set_option maxRecDepth 20000 in
theorem append_no (h : Own W w (.row bj 61 (jS bd j) :: M)) (i : Nat) {s : DSt} (hi : M[i]? = some (.disk bd s)) (hJ : JFit j) (r : List UInt8) (hr : r.length ≤ 1000000000000) {x : Int}
    (hx : (j.broken = true ∧ x = 70) ∨ (j.broken = false ∧ 16777216 < j.bytes + r.length + 16 + 256 ∧ x = 2)) :
    Calls Try.prog 13 #[.pointer (some ⟨bj, 0, none⟩), .string ⟨r.toArray⟩] w (AppPost W bj bd M i x s j) := by
  obtain ⟨g, hg⟩ : ∃ g, w.heap.size = g := ⟨_, rfl⟩
  have H0 := Lib.hid (app_open (r := r) h hg)
  obtain ⟨c1, c2, c3, c4, c5, c6, c7⟩ := app_head H0.out
  obtain ⟨m0, m1, b0, b1, p1⟩ := hJ
  have hset : M.set i (.disk bd s) = M := set_same i hi
  have HS := Lib.hid hset
  clear h hset
  rcases hx with ⟨hb, rfl⟩ | ⟨hb, hbig, rfl⟩
  · go_enter Try.func13, Try.ntmps13
    go_wp2
    go_ret
    exact ⟨rfl, by rw [HS.out]; exact H0.out.tail.tail⟩
  · go_enter Try.func13, Try.ntmps13
    go_wp2
    go_quiet (fail)
    go_wp2
    go_ret
    exact ⟨rfl, by rw [HS.out]; exact (H0.out.drewN nq).tail.tail⟩

theorem app_list {b0 b1 b2 b3 b4 : Item} (h : Own W w (b4 :: b0 :: b1 :: b2 :: b3 :: M)) : Own W w (b0 :: b1 :: b2 :: b3 :: b4 :: M) :=
  (((h.front 4 rfl).front 4 rfl).front 4 rfl).front 4 rfl

theorem app_rows {r : List UInt8} {g : Nat} {w0 : World} (k : Nat) (h : Own W ((w0.alloc (.cells #[.pointer (some ⟨bj, 0, none⟩)] 27)).alloc (.cells #[.string ⟨r.toArray⟩] 9)) (.row (g + 1) 9 [.string ⟨r.toArray⟩] :: .row g 27 [.pointer (some ⟨bj, 0, none⟩)] :: .row bj 61 (jS bd j) :: M)) (hg : w0.heap.size = g) (hb : j.broken = false) :
    Own W (((((w0.alloc (.cells #[.pointer (some ⟨bj, 0, none⟩)] 27)).alloc (.cells #[.string ⟨r.toArray⟩] 9)).drewN k).alloc (.cells #[.int .i64 (64 + (j.p + 4 + r.length) : Nat)] 3)).alloc
      (.cells #[.func (.func 29) #[] #[.pointer (some ⟨g, 0, none⟩), .pointer (some ⟨g + 1, 0, none⟩)], .func (.func 31) #[] #[.pointer (some ⟨g, 0, none⟩), .pointer (some ⟨g + 1 + 1, 0, none⟩)]] 49))
      (.row (g + 1 + 1 + 1) 49 (appF g (g + 1) (g + 1 + 1)) :: .row (g + 1 + 1) 3 [.int .i64 (64 + (j.p + 4 + r.length) : Nat)] :: .row (g + 1) 9 [.string ⟨r.toArray⟩] :: .row g 27 [.pointer (some ⟨bj, 0, none⟩)] :: .row bj 61 (jrow bd j.many j.bytes (64 + j.p) false) :: M) := by
  have e : jS bd j = jrow bd j.many j.bytes (64 + j.p) false := by unfold jS; rw [hb]
  rw [e] at h
  have h1 := (h.drewN k).newRow_at (g := g + 1 + 1) (by show ((w0.alloc _).alloc _).heap.size = _; rw [World.size_alloc, World.size_alloc, hg]) 3 #[.int .i64 (64 + (j.p + 4 + r.length) : Nat)]
  exact h1.newRow_at (g := g + 1 + 1 + 1) (by rw [World.size_alloc]; show ((w0.alloc _).alloc _).heap.size + 1 = _; rw [World.size_alloc, World.size_alloc, hg]) 49 #[.func (.func 29) #[] #[.pointer (some ⟨g, 0, none⟩), .pointer (some ⟨g + 1, 0, none⟩)], .func (.func 31) #[] #[.pointer (some ⟨g, 0, none⟩), .pointer (some ⟨g + 1 + 1, 0, none⟩)]]

set_option maxHeartbeats 4000000 in
set_option maxRecDepth 20000 in
theorem append_yes (h : Own W w (.row bj 61 (jS bd j) :: M)) (i : Nat) {s : DSt} (hi : M[i]? = some (.disk bd s)) {n : Nat} (hf : Fit n s) (hn : n ≤ 1490) (hJ : JFit j) (r : List UInt8) (hb : j.broken = false)
    (hfit : j.bytes + r.length + 16 + 256 ≤ 16777216) {x : Int} {s1 : DSt} (hs : stepsSt s (64 + j.p : Nat) (numL r.length 4 ++ r) 0 (numL (j.p + 4 + r.length) 8) = (x, s1)) :
    Calls Try.prog 13 #[.pointer (some ⟨bj, 0, none⟩), .string ⟨r.toArray⟩] w (AppPost W bj bd M i x s1 (if x = 0 then { many := j.many + 1, bytes := j.bytes + r.length + 16, p := j.p + 4 + r.length, broken := false } else { j with broken := true })) := by
  obtain ⟨j', hj'⟩ : ∃ j' : JSt, j' = if x = 0 then { many := j.many + 1, bytes := j.bytes + r.length + 16, p := j.p + 4 + r.length, broken := false } else { j with broken := true } := ⟨_, rfl⟩
  rw [← hj']
  have HJ' := Lib.hid hj'
  clear hj'
  obtain ⟨g, hg⟩ : ∃ g, w.heap.size = g := ⟨_, rfl⟩
  have H0 := Lib.hid (app_open (r := r) h hg)
  obtain ⟨c1, c2, c3, c4, c5, c6, c7⟩ := app_head H0.out
  obtain ⟨m0, m1, b0, b1, p1⟩ := hJ
  have HS := Lib.hid hs
  have hq1 := IntWalk.i64_in (64 + (j.p : Int) + 4) (by omega)
  have hq2 := IntWalk.i64_in (64 + (j.p : Int) + 4 + r.length) (by omega)
  have hmf : ∀ (fn : Fn) (first cap : Array Value) (w : World), (Instr.makeFunc fn first cap).run Try.prog w = .ok (.func fn first cap) w := fun _ _ _ _ => rfl
  clear h hs
  have HB := Lib.hid hb
  by_cases hx : x = 0
  · have hxb : (x != 0) = false := by simpa using hx
    have HX := Lib.hid hx
    clear hx
    go_enter Try.func13, Try.ntmps13
    go_wp2
    go_quiet (fail)
    go_wp2
    go_region_held3 (fun w' => w'.cell? ⟨g, 0, none⟩ = some (.pointer (some ⟨bj, 0, none⟩)) ∧ w'.cell? ⟨g + 1, 0, none⟩ = some (.string ⟨r.toArray⟩) ∧ w'.cell? ⟨bj, 0, none⟩ = some (.pointer (some ⟨bd, 0, none⟩)) ∧ w'.cell? ⟨bj, 1, none⟩ = some (.int .i64 j.many) ∧
      w'.cell? ⟨bj, 2, none⟩ = some (.int .i64 j.bytes) ∧ w'.cell? ⟨bj, 3, none⟩ = some (.int .i64 (64 + (j.p : Int))) ∧ w'.cell? ⟨bj, 4, none⟩ = some (.bool j.broken))
      (first | exact app_head (H0.out.far ((Upd.refl _ _).drewN _)) | exact app_head (H0.out.far (((Upd.refl _ _).drewN _).alloc _)) | exact app_head (H0.out.far (((Upd.refl _ _).drewN _).drew)) | exact app_head (H0.out.far ((((Upd.refl _ _).drewN _).alloc _).drew)) | exact app_head (H0.out.far ((((Upd.refl _ _).drewN _).drew).alloc _)))
      (fail)
    go_wp2_with (go_at_call 28; go_must (rw [show (64 + (j.p : Int) + 4 + (r.length : Int)) = ((64 + (j.p + 4 + r.length) : Nat) : Int) from by omega]; have hc := steps_any (app_list (app_rows (nq + 1) H0.out hg HB.out)) i hi hf hn (by omega) (by omega) (q := j.p + 4 + r.length) rfl (by omega); rw [HS.out] at hc; refine hc.mono ?_; clear hc; rintro e w1 ⟨rfl, h1⟩; have H1 := Lib.hid h1; clear h1; have hC := app_cells H1.out; have k1 := hC.n; have k2 := hC.r; have k3 := hC.x; have k4 := hC.j0; have k5 := hC.j1; have k6 := hC.j2; have k7 := hC.j3; have k8 := hC.j4; have k9 := (H1.out.row 3 rfl).frozen (j := 1) (by simp [jrow]); clear hC))
    have k10 := (H1.out.row 3 rfl).frozen (j := 2) (by simp [jrow])
    have k11 := (H1.out.row 3 rfl).frozen (j := 3) (by simp [jrow])
    go_region
    all_goals go_wp2
    all_goals
      go_ret
      refine ⟨(show Ending.returned (.int .i64 0) = _ by rw [HX.out]), ?_⟩
      rw [HJ'.out, if_pos HX.out]
      have h1 : Own W w1 (.row bj 61 (jrow bd j.many j.bytes (64 + j.p) (x != 0)) :: M.set i (.disk bd s1)) := (H1.out.erase 4).tail.tail.tail
      rw [hxb] at h1
      have h2 := (((h1.setRow 0 rfl 1 (.int .i64 (j.many + 1))).setRow 0 rfl 2 (.int .i64 (j.bytes + ((r.length : Int) + 16)))).setRow 0 rfl 3 (.int .i64 (64 + ((j.p : Int) + 4 + r.length)))).drew
      rw [show jS bd { many := j.many + 1, bytes := j.bytes + r.length + 16, p := j.p + 4 + r.length, broken := false } = [.pointer (some ⟨bd, 0, none⟩), .int .i64 (j.many + 1), .int .i64 (j.bytes + ((r.length : Int) + 16)), .int .i64 (64 + ((j.p : Int) + 4 + r.length)), .bool false] from by simp [jS, jrow, Int.add_assoc]]
      exact h2
  · have hxb : (x != 0) = true := by simpa using hx
    have HX := Lib.hid hx
    clear hx
    go_enter Try.func13, Try.ntmps13
    go_wp2
    go_quiet (fail)
    go_wp2
    go_region_held3 (fun w' => w'.cell? ⟨g, 0, none⟩ = some (.pointer (some ⟨bj, 0, none⟩)) ∧ w'.cell? ⟨g + 1, 0, none⟩ = some (.string ⟨r.toArray⟩) ∧ w'.cell? ⟨bj, 0, none⟩ = some (.pointer (some ⟨bd, 0, none⟩)) ∧ w'.cell? ⟨bj, 1, none⟩ = some (.int .i64 j.many) ∧
      w'.cell? ⟨bj, 2, none⟩ = some (.int .i64 j.bytes) ∧ w'.cell? ⟨bj, 3, none⟩ = some (.int .i64 (64 + (j.p : Int))) ∧ w'.cell? ⟨bj, 4, none⟩ = some (.bool j.broken))
      (first | exact app_head (H0.out.far ((Upd.refl _ _).drewN _)) | exact app_head (H0.out.far (((Upd.refl _ _).drewN _).alloc _)) | exact app_head (H0.out.far (((Upd.refl _ _).drewN _).drew)) | exact app_head (H0.out.far ((((Upd.refl _ _).drewN _).alloc _).drew)) | exact app_head (H0.out.far ((((Upd.refl _ _).drewN _).drew).alloc _)))
      (fail)
    go_wp2_with (go_at_call 28; go_must (rw [show (64 + (j.p : Int) + 4 + (r.length : Int)) = ((64 + (j.p + 4 + r.length) : Nat) : Int) from by omega]; have hc := steps_any (app_list (app_rows (nq + 1) H0.out hg HB.out)) i hi hf hn (by omega) (by omega) (q := j.p + 4 + r.length) rfl (by omega); rw [HS.out] at hc; refine hc.mono ?_; clear hc; rintro e w1 ⟨rfl, h1⟩; have H1 := Lib.hid h1; clear h1; have hC := app_cells H1.out; have k1 := hC.n; have k2 := hC.r; have k3 := hC.x; have k4 := hC.j0; have k5 := hC.j1; have k6 := hC.j2; have k7 := hC.j3; have k8 := hC.j4; have k9 := (H1.out.row 3 rfl).frozen (j := 1) (by simp [jrow]); clear hC))
    go_ret
    refine ⟨rfl, ?_⟩
    rw [HJ'.out, if_neg HX.out]
    have h1 : Own W w1 (.row bj 61 (jrow bd j.many j.bytes (64 + j.p) (x != 0)) :: M.set i (.disk bd s1)) := (H1.out.erase 4).tail.tail.tail
    rw [hxb] at h1
    exact h1

theorem append_any (h : Own W w (.row bj 61 (jS bd j) :: M)) (i : Nat) {s : DSt} (hi : M[i]? = some (.disk bd s)) {n : Nat} (hf : Fit n s) (hn : n ≤ 1490) (hJ : JFit j) (r : List UInt8) (hr : r.length ≤ 1000000000000) :
    Calls Try.prog 13 #[.pointer (some ⟨bj, 0, none⟩), .string ⟨r.toArray⟩] w (AppPost W bj bd M i (appendSt s j r).1 (appendSt s j r).2.1 (appendSt s j r).2.2) := by
  unfold appendSt
  cases hb : j.broken with
  | true => exact append_no h i hi hJ r hr (.inl ⟨hb, rfl⟩)
  | false =>
    by_cases hbig : 16777216 < j.bytes + r.length + 16 + 256
    · rw [if_pos hbig]
      exact append_no h i hi hJ r hr (.inr ⟨hb, hbig, rfl⟩)
    · rw [if_neg hbig]
      obtain ⟨x, s1, hs⟩ : ∃ x s1, stepsSt s (64 + j.p : Nat) (numL r.length 4 ++ r) 0 (numL (j.p + 4 + r.length) 8) = (x, s1) := ⟨_, _, rfl⟩
      have := append_yes h i hi hf hn hJ r hb (by omega) hs
      rw [hs]
      by_cases hx : x = 0
      · subst hx
        simpa using this
      · simpa [hx] using this
theorem many_any (h : Own W w (.row bj 61 (jS bd j) :: M)) :
    Calls Try.prog 16 #[.pointer (some ⟨bj, 0, none⟩)] w fun e w' => e = .returned (.int .i64 j.many) ∧ w = w' := by
  have c1 : w.cell? ⟨bj, 1, none⟩ = some (.int .i64 j.many) := (h.row 0 rfl).cell 1
  clear h
  go_enter Try.func16, Try.ntmps16
  go_wp2
  go_ret
  exact ⟨rfl, rfl⟩
end
end Go.Proofs.Ytcbpgmoegfkhnaa
