/- the reference's journal. -/
import Derived.Test.YtcbpgmoegfkhnaaJappend
namespace Go.Proofs.Ytcbpgmoegfkhnaa
set_option linter.unusedVariables false
open Go.RowKit

/-- the reference's journal at block b -/
structure RjAt (w : World) (F : Nat → Prop) (b : Nat) (L M : List (List UInt8)) (broken : Bool) (bytes : Int) (vL vM : Value) : Prop where
  row : Row w b 38 [vL, vM, .bool broken, .int .i64 bytes]
  l : Sl w vL 9 1 L.length (ssv L)
  m : Sl w vM 9 1 M.length (ssv M)
  fb : F b
  fl : ∀ k, vL.ownBlock = some k → F k ∧ vM.ownBlock ≠ some k
  fm : ∀ k, vM.ownBlock = some k → F k
theorem RjAt.upd {w w' : World} {F F' S : Nat → Prop} {b : Nat} {L M : List (List UInt8)} {broken : Bool} {bytes : Int} {vL vM : Value} (h : RjAt w F b L M broken bytes vL vM) (hu : Upd S w w') (hS : ∀ k, F k → ¬ S k) (hF : ∀ k, F k → F' k) : RjAt w' F' b L M broken bytes vL vM :=
  ⟨h.row.upd hu (hS _ h.fb), h.l.upd hu (fun k hk => hS k (h.fl k hk).1), h.m.upd hu (fun k hk => hS k (h.fm k hk)), hF _ h.fb, fun k hk => ⟨hF _ (h.fl k hk).1, (h.fl k hk).2⟩, fun k hk => hF _ (h.fm k hk)⟩
def Item.rj (b : Nat) (L M : List (List UInt8)) (broken : Bool) (bytes : Int) : Item :=
  ⟨fun w F => ∃ vL vM, RjAt w F b L M broken bytes vL vM, fun ⟨vL, vM, h⟩ hu hS hF => ⟨vL, vM, h.upd hu hS hF⟩⟩

theorem ssv_ones (L : List (List UInt8)) : Ones (ssv L) := by
  intro u hu
  simp [ssv] at hu
  obtain ⟨a, _, rfl⟩ := hu
  rfl
theorem ssv_get (L : List (List UInt8)) (j : Nat) : (ssv L)[j]? = L[j]?.map fun l => .string ⟨l.toArray⟩ := by simp [ssv]

theorem rjnew_any {W w : World} {m : List Item} (h : Own W w m) : Calls Try.prog 12 #[] w (NPost W m (.rj · [] [] false 0)) := by
  have H := Lib.hid h
  clear h
  go_enter Try.func12, Try.ntmps12
  go_wp2
  go_ret
  refine ⟨w.heap.size, rfl, H.out.more ((Upd.refl _ _).alloc _) ⟨.slice none 0 0, .slice none 0 0, Row.new w _ _, Sl.nil_ _ _ _, Sl.nil_ _ _ _, ⟨Nat.le_refl _, by simp⟩, by simp [Value.ownBlock], by simp [Value.ownBlock]⟩⟩

theorem same_step {A B : List (List UInt8)} {k : Nat} (h : A.take k = B.take k) (ha : k < A.length) (hb : k < B.length) (he : A[k] = B[k]) : A.take (k + 1) = B.take (k + 1) := by
  rw [List.take_succ_eq_append_getElem ha, List.take_succ_eq_append_getElem hb, h, he]
def SamePost (w : World) (b : Bool) (e : Ending) (w' : World) : Prop := e = .returned (.bool b) ∧ Upd (fun _ => False) w w'

set_option maxHeartbeats 2000000 in
theorem rsame_any (w : World) (va vb : Value) (A B : List (List UInt8)) (ha : Rd w va 1 A.length (ssv A)) (hb : Rd w vb 1 B.length (ssv B)) (hA : A.length ≤ maxLen) (hB : B.length ≤ maxLen) :
    Calls Try.prog 20 #[va, vb] w (SamePost w (decide (A = B))) := by
  obtain ⟨hal, Aa, ca, rfl, hca, h0a, hcella⟩ := ha
  obtain ⟨hbl, Ab, cb, rfl, hcb, h0b, hcellb⟩ := hb
  unfold maxLen at hA hB
  by_cases hlen : A.length = B.length
  · have HA := Lib.hid hcella
    have HB := Lib.hid hcellb
    obtain ⟨n, hn⟩ : ∃ n, n = A.length := ⟨_, rfl⟩
    have hn2 : n = B.length := hn.trans hlen
    rw [← hn] at h0a hA hca ⊢
    rw [← hn2] at h0b hcb ⊢
    have HN := Lib.hid (And.intro hn hn2)
    clear hcella hcellb hlen hn hn2 hal hbl hB
    go_enter Try.func20, Try.ntmps20
    go_wp2
    go_loopw [5] (fun v wr => ∃ k : Nat, k ≤ n ∧ v = .int .i64 k ∧ A.take k = B.take k ∧ Upd (fun _ => False) w wr) (fun v _ => n - (intOf v).toNat)
    case atStart => exact ⟨0, Nat.zero_le _, rfl, rfl, Upd.refl _ _⟩
    case round =>
      obtain ⟨k, hk, rfl, ht, hu⟩ := hrel
      have HT := Lib.hid ht
      have HU := Lib.hid hu
      clear ht hu
      by_cases hlt : k < n
      · obtain ⟨ga, oa, rfl⟩ : ∃ g o, Aa = some ⟨g, o, none⟩ := by
          cases Aa with
          | none => have := h0a rfl; omega
          | some ad => exact ⟨ad.block, ad.off, by have := (HA.out ad rfl).1; cases ad; simp_all⟩
        obtain ⟨gb, ob, rfl⟩ : ∃ g o, Ab = some ⟨g, o, none⟩ := by
          cases Ab with
          | none => have := h0b rfl; omega
          | some ad => exact ⟨ad.block, ad.off, by have := (HB.out ad rfl).1; cases ad; simp_all⟩
        have hka : k < A.length := by have := HN.out.1; omega
        have hkb : k < B.length := by have := HN.out.2; omega
        have a1 := (HA.out _ rfl).2 k (.string ⟨A[k].toArray⟩) (by simp [ssv, hka])
        have b1 := (HB.out _ rfl).2 k (.string ⟨B[k].toArray⟩) (by simp [ssv, hkb])
        have a2 := (HU.out.cell (World.block_lt_of_cell? _ _ a1) id).trans a1
        have b2 := (HU.out.cell (World.block_lt_of_cell? _ _ b1) id).trans b1
        have hk0 : (0 : Int) ≤ k := by omega
        have hk1 : (k : Int) < n := by omega
        obtain ⟨x, hx⟩ : ∃ x, x = A[k] := ⟨_, rfl⟩
        obtain ⟨y, hy⟩ : ∃ y, y = B[k] := ⟨_, rfl⟩
        rw [← hx] at a1 a2
        rw [← hy] at b1 b2
        have HX := Lib.hid hx
        have HY := Lib.hid hy
        clear a1 b1 hx hy
        by_cases hxy : x = y
        · subst hxy
          go_wp2
          go_region_held3 (fun w' => w'.cell? ⟨ga, oa + k, none⟩ = some (.string ⟨x.toArray⟩) ∧ w'.cell? ⟨gb, ob + k, none⟩ = some (.string ⟨x.toArray⟩)) (go_keep) (fail)
          go_wp2
          go_roundw
          case rel => exact ⟨k + 1, by omega, by go_num, same_step HT.out hka hkb (by rw [← HX.out, ← HY.out]), HU.out.drew⟩
          case measure => simp [intOf]; omega
        · have hxb : (x == y) = false := by simpa using hxy
          have HXY := Lib.hid hxy
          clear hxy
          go_wp2
          go_region_held3 (fun w' => w'.cell? ⟨ga, oa + k, none⟩ = some (.string ⟨x.toArray⟩) ∧ w'.cell? ⟨gb, ob + k, none⟩ = some (.string ⟨y.toArray⟩)) (go_keep) (fail)
          go_wp2
          go_ret
          refine ⟨?_, HU.out.drew⟩
          rw [decide_eq_false (fun e => HXY.out (by rw [HX.out, HY.out]; subst e; rfl))]
          rfl
      · have hkn : k = n := by omega
        subst hkn
        go_wp2
        go_ret
        refine ⟨?_, HU.out⟩
        have h1 := HT.out
        rw [List.take_of_length_le (by have := HN.out.1; omega), List.take_of_length_le (by have := HN.out.2; omega)] at h1
        simp [h1]
  · have hne : ¬ A = B := fun e => hlen (by rw [e])
    have hb : (((A.length : Nat) : Int) != ((B.length : Nat) : Int)) = true := by rw [bne_iff_ne]; omega
    go_enter Try.func20, Try.ntmps20
    go_wp2
    go_ret
    exact ⟨by simp [hne], Upd.refl _ _⟩

theorem rfits_any (w : World) (b : Nat) (vL vM : Value) (broken : Bool) (bytes : Int) (h : Row w b 38 [vL, vM, .bool broken, .int .i64 bytes]) (h0 : 0 ≤ bytes) (h1 : bytes ≤ 1000000000000000) (r : List UInt8) (hr : r.length ≤ 1000000000000) :
    Calls Try.prog 32 #[.pointer (some ⟨b, 0, none⟩), .string ⟨r.toArray⟩] w fun e w' => e = .returned (.bool (decide (bytes + r.length + 16 + 256 ≤ 16777216))) ∧ w = w' := by
  have c3 : w.cell? ⟨b, 3, none⟩ = some (.int .i64 bytes) := h.cell 3
  clear h
  go_enter Try.func32, Try.ntmps32
  go_wp2
  go_ret
  exact ⟨rfl, rfl⟩

structure RjS where
  l : List (List UInt8)
  m : List (List UInt8)
  broken : Bool
  bytes : Int
def rappSt (j : RjS) (r : List UInt8) (pw : Bool) : Int × RjS :=
  if j.broken then (70, j)
  else if 16777216 < j.bytes + r.length + 16 + 256 then (2, j)
  else if pw then (0, { j with l := j.l ++ [r], bytes := j.bytes + r.length + 16 })
  else (70, { j with broken := true, m := j.m ++ [r] })
def Item.rjS (b : Nat) (j : RjS) : Item := .rj b j.l j.m j.broken j.bytes
section
variable {w w1 : World} {F : Nat → Prop} {b : Nat} {L M : List (List UInt8)} {br : Bool} {by_ : Int} {vL vM v1 : Value}
theorem RjAt.nb (h : RjAt w F b L M br by_ vL vM) : vL.ownBlock ≠ some b ∧ vM.ownBlock ≠ some b :=
  ⟨fun e => by obtain ⟨cs, hr⟩ := h.l.row e; exact hr.ne_ h.row (by decide) rfl, fun e => by obtain ⟨cs, hr⟩ := h.m.row e; exact hr.ne_ h.row (by decide) rfl⟩
theorem rj_appL {O : Obj} {xs : List (List UInt8)} (h : RjAt w F b L M br by_ vL vM) (hA : Appended (w.alloc O) vL 9 1 (L.length + xs.length) (ssv L ++ ssv xs) v1 w1) (n : Int) :
    Row w1 b 38 [vL, vM, .bool br, .int .i64 by_] ∧
    RjAt ((w1.setCell ⟨b, 0, none⟩ v1).setCell ⟨b, 3, none⟩ (.int .i64 n)) (GrowO F w ((w1.setCell ⟨b, 0, none⟩ v1).setCell ⟨b, 3, none⟩ (.int .i64 n))) b (L ++ xs) M br n v1 vM ∧ Upd F w ((w1.setCell ⟨b, 0, none⟩ v1).setCell ⟨b, 3, none⟩ (.int .i64 n)) := by
  obtain ⟨n1, n2⟩ := h.nb
  have hu0 : Upd (fun _ => False) w (w.alloc O) := (Upd.refl _ _).alloc _
  have h0 := h.upd hu0 (fun _ _ => id) (fun _ h => h)
  have hr1 := h0.row.upd hA.upd n1
  have hu2 : Upd (fun k => k = b) w1 ((w1.setCell ⟨b, 0, none⟩ v1).setCell ⟨b, 3, none⟩ (.int .i64 n)) := ((Upd.refl (fun k => k = b) w1).setCell (p := ⟨b, 0, none⟩) (fun _ => rfl) v1).setCell (p := ⟨b, 3, none⟩) (fun _ => rfl) (.int .i64 n)
  have hz0 := hu0.size
  have hv1 : ∀ k, v1.ownBlock = some k → (vL.ownBlock = some k ∨ k = (w.alloc O).heap.size) := fun k hk => by
    rcases hA.at_ with e | e
    · rw [e.1] at hk; exact .inl hk
    · rw [e.1] at hk; cases hk; exact .inr rfl
  have hlt1 : ∀ k, v1.ownBlock = some k → k < w1.heap.size := fun k hk => hA.sl.lt hk
  have hv1b : v1.ownBlock ≠ some b := fun e => by
    rcases hv1 b e with h' | h'
    · exact n1 h'
    · have := h0.row.lt; omega
  have hm1 : Sl w1 vM 9 1 M.length (ssv M) := h0.m.upd hA.upd (fun k hk e => (h.fl k e).2 hk)
  refine ⟨hr1, ⟨?_, ?_, hm1.upd hu2 (fun k hk e => n2 (by rw [hk, e])), .inl h.fb, fun k hk => ⟨?_, ?_⟩, fun k hk => .inl (h.fm k hk)⟩, ?_⟩
  · have := (hr1.set 0 v1).set 3 (.int .i64 n)
    exact this
  · have := hA.sl.upd hu2 (fun k hk e => hv1b (by rw [hk, e]))
    simpa [ssv] using this
  · rcases hv1 k hk with h' | h'
    · exact .inl (h.fl k h').1
    · have := hlt1 k hk
      exact .inr ⟨by omega, by simpa using this⟩
  · intro e
    rcases hv1 k hk with h' | h'
    · exact (h.fl k h').2 e
    · have := h0.m.lt e; omega
  · exact ((hu0.mono (fun _ _ h => h.elim)).trans hA.upd (fun k hk e => (h.fl k e).1)).trans hu2 (fun k hk e => by rw [e]; exact h.fb)
theorem rj_appM {O : Obj} {xs : List (List UInt8)} (h : RjAt w F b L M br by_ vL vM) (hA : Appended ((w.setCell ⟨b, 2, none⟩ (.bool true)).alloc O) vM 9 1 (M.length + xs.length) (ssv M ++ ssv xs) v1 w1) :
    Row w1 b 38 [vL, vM, .bool true, .int .i64 by_] ∧
    RjAt (w1.setCell ⟨b, 1, none⟩ v1) (GrowO F w (w1.setCell ⟨b, 1, none⟩ v1)) b L (M ++ xs) true by_ vL v1 ∧ Upd F w (w1.setCell ⟨b, 1, none⟩ v1) := by
  obtain ⟨n1, n2⟩ := h.nb
  have hus : Upd (fun k => k = b) w (w.setCell ⟨b, 2, none⟩ (.bool true)) := (Upd.refl (fun k => k = b) w).setCell (p := ⟨b, 2, none⟩) (fun _ => rfl) (.bool true)
  have hu0 : Upd (fun k => k = b) w ((w.setCell ⟨b, 2, none⟩ (.bool true)).alloc O) := hus.alloc _
  have hr0 : Row ((w.setCell ⟨b, 2, none⟩ (.bool true)).alloc O) b 38 [vL, vM, .bool true, .int .i64 by_] := (h.row.set 2 (.bool true)).upd ((Upd.refl (fun _ => False) _).alloc _) id
  have hl0 := h.l.upd hu0 (fun k hk e => n1 (by rw [hk, e]))
  have hm0 := h.m.upd hu0 (fun k hk e => n2 (by rw [hk, e]))
  have hr1 := hr0.upd hA.upd n2
  have hu2 : Upd (fun k => k = b) w1 (w1.setCell ⟨b, 1, none⟩ v1) := (Upd.refl (fun k => k = b) w1).setCell (p := ⟨b, 1, none⟩) (fun _ => rfl) v1
  have hz0 := hu0.size
  have hv1 : ∀ k, v1.ownBlock = some k → (vM.ownBlock = some k ∨ k = ((w.setCell ⟨b, 2, none⟩ (.bool true)).alloc O).heap.size) := fun k hk => by
    rcases hA.at_ with e | e
    · rw [e.1] at hk; exact .inl hk
    · rw [e.1] at hk; cases hk; exact .inr rfl
  have hlt1 : ∀ k, v1.ownBlock = some k → k < w1.heap.size := fun k hk => hA.sl.lt hk
  have hv1b : v1.ownBlock ≠ some b := fun e => by
    rcases hv1 b e with h' | h'
    · exact n2 h'
    · have := hr0.lt; omega
  refine ⟨hr1, ⟨?_, (hl0.upd hA.upd (fun k hk e => (h.fl k hk).2 e)).upd hu2 (fun k hk e => n1 (by rw [hk, e])), ?_, .inl h.fb, fun k hk => ⟨.inl (h.fl k hk).1, ?_⟩, fun k hk => ?_⟩, ?_⟩
  · exact hr1.set 1 v1
  · have := hA.sl.upd hu2 (fun k hk e => hv1b (by rw [hk, e]))
    simpa [ssv] using this
  · intro e
    rcases hv1 k e with h' | h'
    · exact (h.fl k hk).2 h'
    · have := hl0.lt hk; omega
  · rcases hv1 k hk with h' | h'
    · exact .inl (h.fm k h')
    · have := hlt1 k hk
      exact .inr ⟨by omega, by simpa using this⟩
  · exact ((hu0.mono (fun k _ e => by rw [e]; exact h.fb)).trans hA.upd (fun k hk e => h.fm k e)).trans hu2 (fun k hk e => by rw [e]; exact h.fb)
end
def RappPost (W : World) (m : List Item) (i b : Nat) (x : Int) (j : RjS) (e : Ending) (w' : World) : Prop := e = .returned (.int .i64 x) ∧ Own W w' (m.set i (.rjS b j))

set_option maxHeartbeats 2000000 in
theorem rapp_any {W w : World} {m : List Item} (h : Own W w m) (i : Nat) {b : Nat} {j : RjS} (hi : m[i]? = some (.rjS b j)) (hl : j.l.length ≤ 1000000000) (hm : j.m.length ≤ 1000000000) (h0 : 0 ≤ j.bytes) (h1 : j.bytes ≤ 1000000000000000) (r : List UInt8) (hr : r.length ≤ 1000000000000) (pw : Bool) :
    Calls Try.prog 15 #[.pointer (some ⟨b, 0, none⟩), .string ⟨r.toArray⟩, .bool pw] w (RappPost W m i b (rappSt j r pw).1 (rappSt j r pw).2) := by
  obtain ⟨F, ⟨vL, vM, hJ⟩, hF, hgo⟩ := h.take i hi
  have hset : m.set i (.rjS b j) = m := set_same i hi
  have HS := Lib.hid hset
  have H := Lib.hid h
  have HJ := Lib.hid hJ
  have HGO := Lib.hid hgo
  obtain ⟨L, M, br, by_⟩ := j
  dsimp only at hl hm h0 h1 hJ
  have c2 : w.cell? ⟨b, 2, none⟩ = some (.bool br) := hJ.row.cell 2
  have c0 : w.cell? ⟨b, 0, none⟩ = some vL := hJ.row.cell 0
  have c1 : w.cell? ⟨b, 1, none⟩ = some vM := hJ.row.cell 1
  have c3 : w.cell? ⟨b, 3, none⟩ = some (.int .i64 by_) := hJ.row.cell 3
  have f0 : w.frozen? ⟨b, 0, none⟩ = false := hJ.row.frozen (j := 0) (by simp)
  have f1 : w.frozen? ⟨b, 1, none⟩ = false := hJ.row.frozen (j := 1) (by simp)
  have f2 : w.frozen? ⟨b, 2, none⟩ = false := hJ.row.frozen (j := 2) (by simp)
  have f3 : w.frozen? ⟨b, 3, none⟩ = false := hJ.row.frozen (j := 3) (by simp)
  have hbw := hJ.row.lt
  clear h hJ hgo hset
  unfold rappSt
  dsimp only
  cases br with
  | true =>
    go_enter Try.func15, Try.ntmps15
    go_wp2
    go_ret
    exact ⟨rfl, by rw [HS.out]; exact H.out⟩
  | false =>
    by_cases hbig : 16777216 < by_ + r.length + 16 + 256
    · have hb2 : decide (by_ + r.length + 16 + 256 ≤ 16777216) = false := by simp; omega
      have e : (if (false : Bool) = true then ((70 : Int), (⟨L, M, false, by_⟩ : RjS)) else if 16777216 < by_ + r.length + 16 + 256 then (2, ⟨L, M, false, by_⟩) else if pw = true then (0, ⟨L ++ [r], M, false, by_ + r.length + 16⟩) else (70, ⟨L, M ++ [r], true, by_⟩)) = (2, ⟨L, M, false, by_⟩) := by simp [hbig]
      rw [e]
      clear e hbig
      go_enter Try.func15, Try.ntmps15
      go_wp2_with (go_at_call 32; go_must (have hc := rfits_any _ b vL vM false by_ HJ.out.row h0 h1 r hr; rw [hb2] at hc; refine hc.mono ?_; clear hc; rintro e w1 ⟨rfl, rfl⟩))
      go_ret
      exact ⟨rfl, by rw [HS.out]; exact H.out⟩
    · have hb2 : decide (by_ + r.length + 16 + 256 ≤ 16777216) = true := by simp; omega
      have hrd : Rd (w.alloc (.cells #[.string ⟨r.toArray⟩] 9)) (.slice (some ⟨w.heap.size, 0, none⟩) 1 1) 1 1 [.string ⟨r.toArray⟩] := by
        have := Rd.of_new (cs := #[.string ⟨r.toArray⟩]) (n := 1) (size := 1) (Row.new w 9 #[.string ⟨r.toArray⟩]) (by simp)
        simpa using this
      have HRD := Lib.hid hrd
      have hone : Ones [Value.string ⟨r.toArray⟩] := by intro u hu; simp at hu; subst hu; rfl
      have HO := Lib.hid hone
      clear hrd hone
      cases pw with
      | true =>
        have e : (if (false : Bool) = true then ((70 : Int), (⟨L, M, false, by_⟩ : RjS)) else if 16777216 < by_ + r.length + 16 + 256 then (2, ⟨L, M, false, by_⟩) else if true = true then (0, ⟨L ++ [r], M, false, by_ + r.length + 16⟩) else (70, ⟨L, M ++ [r], true, by_⟩)) = (0, ⟨L ++ [r], M, false, by_ + r.length + 16⟩) := by simp [hbig]
        rw [e]
        clear e
        go_enter Try.func15, Try.ntmps15
        go_wp2_with (first
          | (go_at_call 32; go_must (have hc := rfits_any _ b vL vM false by_ HJ.out.row h0 h1 r hr; rw [hb2] at hc; refine hc.mono ?_; clear hc; rintro e w1 ⟨rfl, rfl⟩))
          | (show wpList _ _ _ (⟨some 37, _, _, _, _, _⟩ :: _) _ _; go_must (refine wpList_append_sl rfl (.tmp 34) (.tmp 36) _ rfl T_strs rfl (HJ.out.l.far ((Upd.refl _ _).alloc _)) rfl HRD.out HO.out (by unfold maxLen; omega) (by omega) ?_); intro v1 w1 hA; obtain ⟨A1, k1, rfl, _⟩ := hA.sl.form; have hz := rj_appL (xs := [r]) HJ.out hA (by_ + (r.length : Int) + 16); have d0 := hz.1.cell 0; have d3 := hz.1.cell 3; have g0 := hz.1.frozen (j := 0) (by simp); have g3 := hz.1.frozen (j := 3) (by simp); have HZ := Lib.hid hz; clear hz))
        go_ret
        exact ⟨rfl, HGO.out _ _ ⟨_, _, HZ.out.2.1⟩ HZ.out.2.2⟩
      | false =>
        have e : (if (false : Bool) = true then ((70 : Int), (⟨L, M, false, by_⟩ : RjS)) else if 16777216 < by_ + r.length + 16 + 256 then (2, ⟨L, M, false, by_⟩) else if false = true then (0, ⟨L ++ [r], M, false, by_ + r.length + 16⟩) else (70, ⟨L, M ++ [r], true, by_⟩)) = (70, ⟨L, M ++ [r], true, by_⟩) := by simp [hbig]
        rw [e]
        clear e
        have hrd2 : Rd ((w.setCell ⟨b, 2, none⟩ (.bool true)).alloc (.cells #[.string ⟨r.toArray⟩] 9)) (.slice (some ⟨w.heap.size, 0, none⟩) 1 1) 1 1 [.string ⟨r.toArray⟩] := by
          have := Rd.of_new (cs := #[.string ⟨r.toArray⟩]) (n := 1) (size := 1) (Row.new (w.setCell ⟨b, 2, none⟩ (.bool true)) 9 #[.string ⟨r.toArray⟩]) (by simp)
          simpa using this
        have HRD2 := Lib.hid hrd2
        have hm2 : Sl ((w.setCell ⟨b, 2, none⟩ (.bool true)).alloc (.cells #[.string ⟨r.toArray⟩] 9)) vM 9 1 M.length (ssv M) := HJ.out.m.upd (((Upd.refl (fun k => k = b) w).setCell (p := ⟨b, 2, none⟩) (fun _ => rfl) (.bool true)).alloc _) (fun k hk e => HJ.out.nb.2 (by rw [hk, e]))
        have HM2 := Lib.hid hm2
        clear hrd2 hm2
        go_enter Try.func15, Try.ntmps15
        go_wp2_with (first
          | (go_at_call 32; go_must (have hc := rfits_any _ b vL vM false by_ HJ.out.row h0 h1 r hr; rw [hb2] at hc; refine hc.mono ?_; clear hc; rintro e w1 ⟨rfl, rfl⟩))
          | (show wpList _ _ _ (⟨some 27, _, _, _, _, _⟩ :: _) _ _; go_must (refine wpList_append_sl rfl (.tmp 24) (.tmp 26) _ rfl T_strs rfl HM2.out rfl HRD2.out HO.out (by unfold maxLen; omega) (by omega) ?_); intro v1 w1 hA; obtain ⟨A1, k1, rfl, _⟩ := hA.sl.form; have hz := rj_appM (xs := [r]) HJ.out hA; have d1 := hz.1.cell 1; have g1 := hz.1.frozen (j := 1) (by simp); have HZ := Lib.hid hz; clear hz))
        go_ret
        exact ⟨rfl, HGO.out _ _ ⟨_, _, HZ.out.2.1⟩ HZ.out.2.2⟩
end Go.Proofs.Ytcbpgmoegfkhnaa
