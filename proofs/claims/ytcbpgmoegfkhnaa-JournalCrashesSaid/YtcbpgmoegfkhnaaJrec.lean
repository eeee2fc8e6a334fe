/- journal: the iterator over the records. -/
import Derived.Test.YtcbpgmoegfkhnaaJvalB
import Derived.RangeFuncNested
import Derived.RangeFuncBound
import Derived.RangeFuncCalls
import Derived.RangeFuncLeaves
import Derived.Shelf.Abstract
import Derived.Shelf.RegionOpen
import Derived.OwnWalkIn
import Derived.TacticsInMore
import Derived.LoopNIn
import Derived.LoopIn
namespace Go.Proofs.Ytcbpgmoegfkhnaa
set_option linter.unusedVariables false
open Go.RowKit Go.Shelf
attribute [local go_sem] Oper.semAt_some

/-- the records between two offsets; the last one is false if the form is not right -/
def recsL (c : List UInt8) : Nat → Nat → Nat → List (List UInt8 × Bool)
  | 0, _, _ => []
  | f + 1, a, e => if a < e then (if e < a + 4 + (valI (readL c a 4) 4).toNat then [([], false)] else (readL c (a + 4 : Nat) (valI (readL c a 4) 4), true) :: recsL c f (a + 4 + (valI (readL c a 4) 4).toNat) e) else []

abbrev Rec := { x : List UInt8 × Bool // x.1.length ≤ 16777216 }
def recV (x : Rec) : Array Value := #[.string ⟨x.1.1.toArray⟩, .bool x.1.2]

theorem readL_length (c : List UInt8) (o n : Int) : (readL c o n).length ≤ c.length := by
  unfold readL
  split
  · simp
  · simp; omega

/-- blocks that a round may turn -/
def RecKp (S : Nat → Prop) (W W' : World) : Prop := Upd S W W'

def RecRel (c : List UInt8) (e : Nat) (R : List Rec) (S : Nat → Prop) (W : World) (J : List Rec → World → Prop) (a : Nat) (wr : World) : Prop :=
  ∃ pre : List Rec, R.map (·.1) = pre.map (·.1) ++ recsL c (e - a) a e ∧ J pre wr ∧ Upd S W wr

theorem recsL_fuel (c : List UInt8) (e : Nat) : ∀ (f f' a : Nat), e - a ≤ f → e - a ≤ f' → recsL c f a e = recsL c f' a e
  | 0, 0, _, _, _ => rfl
  | 0, f' + 1, a, h, _ => by simp only [recsL]; rw [if_neg (by omega)]
  | f + 1, 0, a, _, h => by simp only [recsL]; rw [if_neg (by omega)]
  | f + 1, f' + 1, a, h, h' => by
    simp only [recsL]
    by_cases h1 : a < e
    · rw [if_pos h1, if_pos h1, recsL_fuel c e f f' _ (by omega) (by omega)]
    · rw [if_neg h1, if_neg h1]
theorem recsL_end (c : List UInt8) {f a e : Nat} (h : ¬ a < e) : recsL c f a e = [] := by
  cases f with
  | zero => rfl
  | succ f => simp only [recsL]; rw [if_neg h]
theorem recsL_bad (c : List UInt8) {a e n : Nat} (h : a < e) (hn : valI (readL c a 4) 4 = n) (hb : e < a + 4 + n) : recsL c (e - a) a e = [([], false)] := by
  obtain ⟨f, hf⟩ : ∃ f, e - a = f + 1 := ⟨e - a - 1, by omega⟩
  rw [hf]
  simp only [recsL, hn, Int.toNat_natCast]
  rw [if_pos h, if_pos hb]
theorem recsL_good (c : List UInt8) {a e n : Nat} (h : a < e) (hn : valI (readL c a 4) 4 = n) (hb : ¬ e < a + 4 + n) : recsL c (e - a) a e = (readL c ((a : Int) + 4) n, true) :: recsL c (e - (a + 4 + n)) (a + 4 + n) e := by
  obtain ⟨f, hf⟩ : ∃ f, e - a = f + 1 := ⟨e - a - 1, by omega⟩
  rw [hf]
  simp only [recsL, hn, Int.toNat_natCast]
  rw [if_pos h, if_neg hb, show ((a + 4 : Nat) : Int) = (a : Int) + 4 from by omega, recsL_fuel c e f (e - (a + 4 + n)) _ (by omega) (Nat.le_refl _)]

theorem recs_eq : ∀ {a b : List Rec}, a.map (·.1) = b.map (·.1) → a = b
  | [], [], _ => rfl
  | [], _ :: _, h => by simp at h
  | _ :: _, [], h => by simp at h
  | x :: a, y :: b, h => by
    simp only [List.map_cons, List.cons.injEq] at h
    rw [Subtype.ext h.1, recs_eq h.2]
theorem recs_prefix {R pre : List Rec} {rest : List (List UInt8 × Bool)} (h : R.map (·.1) = pre.map (·.1) ++ rest) : pre <+: R := by
  have hl : pre.length ≤ R.length := by
    have := congrArg List.length h
    simp at this
    omega
  have : pre = R.take pre.length := recs_eq (by
    rw [List.map_take, h, List.take_append_of_le_length (by simp), List.take_of_length_le (by simp)])
  rw [this]
  exact List.take_prefix _ _
theorem recs_lt {R pre : List Rec} {x : List UInt8 × Bool} {rest : List (List UInt8 × Bool)} (h : R.map (·.1) = pre.map (·.1) ++ x :: rest) : pre.length < R.length := by
  have := congrArg List.length h
  simp at this
  omega
theorem abides_far {J : List Rec → World → Prop} {B : Nat} (hJ : AbidesFrom B J) {pre : List Rec} {w w' : World} (h : J pre w) (hu : Upd (fun _ => False) w w') : J pre w' :=
  hJ pre w w' none h ⟨hu.os, hu.tape, hu.output, hu.size, fun k hk _ => hu.block k hk id⟩ (by simp)

theorem read_far (w : World) (F : Nat → Prop) (b : Nat) (s : DSt) (hd : DiskAt w F b s) (hm : s.now.length ≤ 16777216) (off k : Int) (ho : off ≤ 9223372036854775807) (hk : k ≤ 9223372036854775807) :
    Calls Try.prog 24 #[.pointer (some ⟨b, 0, none⟩), .int .i64 off, .int .i64 k] w (TextPost w (readL s.now off k)) :=
  (read_any w F b s hd (by omega) off k ho hk).mono fun e w' ⟨he, n, hw⟩ => ⟨he, by subst hw; exact (Upd.refl _ w).drewN n⟩

/-- What stays known of the disk and of the two boxes. -/
structure Held (be bx bd e : Nat) (S Fd : Nat → Prop) (s : DSt) (wr : World) : Prop where
  ce : wr.cell? ⟨be, 0, none⟩ = some (.int .i64 e)
  cx : wr.cell? ⟨bx, 0, none⟩ = some (.pointer (some ⟨bd, 0, none⟩))
  d : DiskAt wr Fd bd s
theorem Held.upd {be bx bd e : Nat} {S Fd : Nat → Prop} {s : DSt} {wr w' : World} (h : Held be bx bd e S Fd s wr) (hSe : ¬ S be) (hSx : ¬ S bx) (hSd : ∀ k, Fd k → ¬ S k) (hu : Upd S wr w') : Held be bx bd e S Fd s w' := by
  refine ⟨(hu.cell (World.block_lt_of_cell? _ _ h.ce) hSe).trans h.ce, (hu.cell (World.block_lt_of_cell? _ _ h.cx) hSx).trans h.cx, ?_⟩
  obtain ⟨vn, vs, vp, cells, hk⟩ := h.d
  exact ⟨vn, vs, vp, cells, hk.upd hu hSd (fun _ h => h)⟩

set_option maxHeartbeats 2000000 in
set_option maxRecDepth 20000 in
theorem records1_any (l be bx bd e : Nat) (S : Nat → Prop) (Fd : Nat → Prop) (s : DSt) (hs : s.now.length ≤ 16777216) (he : e ≤ 33554432) (W : World) (hbe : W.cell? ⟨be, 0, none⟩ = some (.int .i64 e)) (hbx : W.cell? ⟨bx, 0, none⟩ = some (.pointer (some ⟨bd, 0, none⟩)))
    (hSe : ¬ S be) (hSx : ¬ S bx) (hSd : ∀ k, Fd k → ¬ S k) (hd : DiskAt W Fd bd s) (R : List Rec) (hR : R.map (·.1) = recsL s.now (e - 64) 64 e)
    (J Jx : List Rec → World → Prop) (hJ : AbidesFrom W.heap.size J) (hJx : AbidesFrom W.heap.size Jx)
    (hY : ∀ pre x W1, J pre W1 → pre.length < R.length → YieldAt Fence.wide 8 Try.prog l (recV x) W1 fun e W' =>
      (e = .returned (.bool true) ∧ J (pre ++ [x]) W' ∧ RecKp S W1 W') ∨ (e = .returned (.bool false) ∧ Jx (pre ++ [x]) W'))
    (h0 : J [] W) :
    CallsIn Fence.wide 9 Try.prog 37 #[.func (.yield l) #[] #[], .pointer (some ⟨be, 0, none⟩), .pointer (some ⟨bx, 0, none⟩)] W fun e W' => (∃ v, e = .returned v) ∧
      ((∃ ys, ys = R ∧ J ys W') ∨ (∃ pre, pre <+: R ∧ Jx pre W')) := by
  refine callsIn_of_wp Try.func37 rfl trivial ?_ rfl
  simp only [Try.ntmps37, List.size_toArray, List.length_cons, List.length_nil, Nat.reduceAdd, Nat.reduceSub, Array.replicate_succ, Array.replicate_zero, List.push_toArray, List.append_toArray, List.nil_append, List.cons_append]
  gi_wp2
  gi_loopw [4] (fun p wr => ∃ a : Nat, p = .int .i64 a ∧ 64 ≤ a ∧ RecRel s.now e R S W J a wr) (fun p wr => e - (intOf p).toNat)
  case atStart =>
    exact ⟨64, rfl, Nat.le_refl _, [], hR, h0, Upd.refl _ _⟩
  case round =>
    obtain ⟨a, rfl, ha, pre, hr, hJr, hur⟩ := hrel
    have hH : Held be bx bd e S Fd s wr := (Held.mk (S := S) hbe hbx hd).upd hSe hSx hSd hur
    have hce := hH.ce
    have hcx := hH.cx
    have HH := Lib.hid hH
    have HR := Lib.hid hr
    have HY := Lib.hid hY
    have HJ := Lib.hid hJ
    have HU := Lib.hid hur
    have HJr := Lib.hid hJr
    have hnl := readL_length s.now a 4
    clear hH hr hY hJ hJx hur hR hd hbe hbx h0 hJr
    by_cases hlt : a < e
    · obtain ⟨n, hn⟩ : ∃ n : Nat, valI (readL s.now a 4) 4 = n := ⟨(valI (readL s.now a 4) 4).toNat, by have := (valI_four (readL s.now a 4)).1; omega⟩
      have hn4 : n < 4294967296 := by have := (valI_four (readL s.now a 4)).2; omega
      have HN := Lib.hid hn
      by_cases hb : e < a + 4 + n
      · have HB := Lib.hid (recsL_bad s.now hlt hn hb)
        have hR2 := HR.out
        rw [HB.out] at hR2
        have hlen := Lib.hid (recs_lt hR2)
        obtain ⟨x0, hx0⟩ : ∃ x : Rec, x = ⟨([], false), by simp⟩ := ⟨_, rfl⟩
        have HX : Hid (recV x0 = #[.string ⟨#[]⟩, .bool false]) := Lib.hid (by rw [hx0]; rfl)
        have HE : Hid (R = pre ++ [x0]) := Lib.hid (recs_eq (by rw [hR2, hx0]; simp))
        have hbi : (e : Int) < (a : Int) + 4 + n := by omega
        clear hn hR2 hx0
        gi_wp2_with (first
          | (refine ⟨trivial, ?_⟩; gi_at_call 24; go_must (refine (callsIn_wide.2 (read_far _ Fd bd s HH.out.d hs a 4 (by omega) (by decide))).mono ?_; rintro e1 w1 ⟨rfl, hu1⟩; have H1 := HH.out.upd hSe hSx hSd (hu1.mono (fun _ _ h => h.elim)); have hce1 := H1.ce; have hcx1 := H1.cx; obtain ⟨fn, tmps, assign, body, hy, hRo⟩ := HY.out pre x0 w1 (abides_far HJ.out HJr.out hu1) hlen.out; rw [HX.out] at hy; have HRo := Lib.hid hRo; clear H1 hu1 hRo))
          | (refine ⟨trivial, ?_⟩; gi_at_call 23; go_must (refine (callsIn_wide.2 (value_any _ (readL s.now a 4) 4 (by decide) (by unfold maxLen; omega))).mono ?_; rintro e1 w2 ⟨rfl, rfl⟩; rw [HN.out])))
        refine HRo.out.mono ?_
        rintro e3 w3 (⟨rfl, hJ3, hk3⟩ | ⟨rfl, hJx3⟩)
        · gi_wp2
          refine bodyPost_ret (results_none rfl _ _ _) rfl ?_
          exact ⟨⟨_, rfl⟩, .inl ⟨pre ++ [x0], HE.out.symm, hJ3⟩⟩
        · gi_wp2
          refine bodyPost_ret (results_none rfl _ _ _) rfl ?_
          exact ⟨⟨_, rfl⟩, .inr ⟨pre ++ [x0], by rw [HE.out]; exact List.prefix_rfl, hJx3⟩⟩
      · have HB := Lib.hid (recsL_good s.now hlt hn hb)
        have hR2 := HR.out
        rw [HB.out] at hR2
        have hlen := Lib.hid (recs_lt hR2)
        obtain ⟨x0, hx0⟩ : ∃ x : Rec, x = ⟨(readL s.now ((a : Int) + 4) n, true), Nat.le_trans (readL_length _ _ _) hs⟩ := ⟨_, rfl⟩
        have HX : Hid (recV x0 = #[.string ⟨(readL s.now ((a : Int) + 4) n).toArray⟩, .bool true]) := Lib.hid (by rw [hx0]; rfl)
        have HE : Hid (R.map (·.1) = (pre ++ [x0]).map (·.1) ++ recsL s.now (e - (a + 4 + n)) (a + 4 + n) e) := Lib.hid (by rw [hR2, hx0]; simp)
        have hbi : ¬ (e : Int) < (a : Int) + 4 + n := by omega
        clear hn hR2 hx0
        gi_wp2_with (first
          | (refine ⟨trivial, ?_⟩; gi_at_call 24; show CallsIn _ _ _ _ _ wr _; go_must (refine (callsIn_wide.2 (read_far _ Fd bd s HH.out.d hs a 4 (by omega) (by decide))).mono ?_; rintro e1 w1 ⟨rfl, hu1⟩; have H1 := HH.out.upd hSe hSx hSd (hu1.mono (fun _ _ h => h.elim)); have hce1 := H1.ce; have hcx1 := H1.cx; have HH1 := Lib.hid H1; have HJ1 := Lib.hid (abides_far HJ.out HJr.out hu1); have HU1 := Lib.hid hu1; clear H1 hu1))
          | (refine ⟨trivial, ?_⟩; gi_at_call 24; show CallsIn _ _ _ _ _ w1 _; go_must (refine (callsIn_wide.2 (read_far _ Fd bd s HH1.out.d hs ((a : Int) + 4) n (by omega) (by omega))).mono ?_; rintro e1 w4 ⟨rfl, hu1⟩; have H1 := HH1.out.upd hSe hSx hSd (hu1.mono (fun _ _ h => h.elim)); have hce4 := H1.ce; have hcx4 := H1.cx; obtain ⟨fn, tmps, assign, body, hy, hRo⟩ := HY.out pre x0 w4 (abides_far HJ.out HJ1.out hu1) hlen.out; rw [HX.out] at hy; have HRo := Lib.hid hRo; have HU4 : Hid (Upd S W w4) := Lib.hid ((HU.out.trans HU1.out (fun _ _ h => h.elim)).trans hu1 (fun _ _ h => h.elim)); clear H1 hu1 hRo))
          | (refine ⟨trivial, ?_⟩; gi_at_call 23; go_must (refine (callsIn_wide.2 (value_any _ (readL s.now a 4) 4 (by decide) (by unfold maxLen; omega))).mono ?_; rintro e1 w2 ⟨rfl, rfl⟩; rw [HN.out])))
        refine HRo.out.mono ?_
        rintro e3 w3 (⟨rfl, hJ3, hk3⟩ | ⟨rfl, hJx3⟩)
        · have HJ3 := Lib.hid hJ3
          have HK3 := Lib.hid hk3
          clear hJ3 hk3
          gi_wp2
          go_roundw
          case rel => exact ⟨a + 4 + n, by go_num, by omega, pre ++ [x0], HE.out, HJ3.out, HU4.out.trans HK3.out (fun _ _ h => h)⟩
          case measure => simp [intOf]; omega
        · have HJx3 := Lib.hid hJx3
          clear hJx3
          gi_wp2
          refine bodyPost_ret (results_none rfl _ _ _) rfl ?_
          exact ⟨⟨_, rfl⟩, .inr ⟨pre ++ [x0], recs_prefix HE.out, HJx3.out⟩⟩
    · have HE : Hid (R = pre) := Lib.hid (recs_eq (by rw [HR.out, recsL_end _ hlt, List.append_nil]))
      gi_wp2
      go_end0
      exact ⟨⟨_, rfl⟩, .inl (by rw [HE.out]; exact HJr.out)⟩
end Go.Proofs.Ytcbpgmoegfkhnaa
