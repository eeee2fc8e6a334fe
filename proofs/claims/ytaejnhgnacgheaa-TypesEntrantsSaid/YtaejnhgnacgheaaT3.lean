/- types: slices.IndexFunc, slices.ContainsFunc and all, at five element types, for whatever condition (printed by gen-tall.py). -/
import Derived.Test.YtaejnhgnacgheaaT2
import Derived.Shelf.Abstract
namespace Go.Proofs.Ytaejnhgnacgheaa
set_option linter.unusedVariables false
set_option linter.unusedSimpArgs false
open Go.RowKit

/-- a function value g, lb answers the condition p on the elements of L, and changes nothing that was there -/
def PredOk {α : Type} (P : Program) (g : Nat) (lb : Array Value) (val : α → Value) (p : α → Bool) (L : List α) (w : World) : Prop :=
  ∀ W x, x ∈ L → Kp w W → Calls P g (#[val x] ++ lb) W (fun e W' => e = .returned (.bool (p x)) ∧ Kp W W')
theorem PredOk.kp {α : Type} {P : Program} {g : Nat} {lb : Array Value} {val : α → Value} {p : α → Bool} {L : List α} {w w' : World} (h : PredOk P g lb val p L w) (hu : Kp w w') : PredOk P g lb val p L w' :=
  fun W x hx hb => h W x hx (hu.trans hb)
/-- what IndexFunc answers -/
def IdxPost {α : Type} (p : α → Bool) (L : List α) (w : World) (e : Ending) (w' : World) : Prop := ∃ r : Int, e = .returned (.int .i64 r) ∧ decide (0 ≤ r) = L.any p ∧ Kp w w'
theorem any_hit {α : Type} {L : List α} {p : α → Bool} {k : Nat} (hk : k < L.length) (h : p L[k] = true) : L.any p = true := List.any_eq_true.2 ⟨L[k], List.getElem_mem _, h⟩
theorem any_miss {α : Type} {L : List α} {p : α → Bool} (h : ∀ j, ∀ hj : j < L.length, p L[j] = false) : L.any p = false := by
  rw [List.any_eq_false]
  intro x hx
  obtain ⟨k, hk, rfl⟩ := List.mem_iff_getElem.1 hx
  simp [h k hk]
theorem all_any {α : Type} (L : List α) (p : α → Bool) : (!L.any fun x => !p x) = L.all p := by
  induction L with
  | nil => rfl
  | cons x L ih => simp only [List.any_cons, List.all_cons, ← ih]; cases p x <;> simp

abbrev valI (x : Int) : Value := .int .i64 x
set_option maxHeartbeats 1000000 in
theorem idxI_any (w : World) (v : Value) (L : List (Int)) (h : Lst 1 numE w v L) (hL : L.length ≤ 1000000000) (g : Nat) (lb : Array Value) (p : Int → Bool) (hp : PredOk Try.prog g lb valI p L w)
    (eg : ∀ args w, (callFunc g args).run Try.prog w = .ok (.enter g args) w) : Calls Try.prog 101 #[v, .func (.func g) #[] lb] w (IdxPost p L w) := by
  obtain ⟨A, c, rfl, hA⟩ := h
  have H := Lib.hid hA
  obtain ⟨n, hn⟩ : ∃ n, n = L.length := ⟨_, rfl⟩
  rw [← hn] at hL ⊢
  have HN := Lib.hid hn
  have HP := Lib.hid hp
  clear hA hn hp
  go_enter Try.func101, Try.ntmps101
  go_wp2
  go_loopw [5, 8] (fun _ v wr => ∃ k : Nat, k ≤ n ∧ v = .int .i64 k ∧ (∀ j, ∀ hj : j < L.length, j < k → p L[j] = false) ∧ Kp w wr) (fun _ v _ => n - (intOf v).toNat)
  case atStart => exact ⟨0, Nat.zero_le _, rfl, by omega, Upd.refl _ _⟩
  case round =>
    obtain ⟨k, hk, rfl, ht, hu⟩ := hrel
    have HT := Lib.hid ht
    have HU := Lib.hid hu
    clear ht hu
    by_cases hlt : k < n
    · have hkl : k < L.length := by have := HN.out; omega
      obtain ⟨gA, oA, rfl, hc0⟩ := (H.out.upd HU.out).at1 hkl
      have hcall := HP.out wr L[k] (List.getElem_mem _) HU.out
      obtain ⟨x, hx⟩ : ∃ x, x = L[k] := ⟨_, rfl⟩
      rw [← hx] at hc0
      rw [← hx] at hcall
      have HX := Lib.hid hx
      clear hx
      have hk0 : (0 : Int) ≤ k := by omega
      have hk1 : (k : Int) < n := by omega
      obtain ⟨q, hq⟩ : ∃ q, q = p x := ⟨_, rfl⟩
      rw [← hq] at hcall
      have HQ := Lib.hid hq
      have HCL := Lib.hid hcall
      clear hq hcall
      cases q with
      | true =>
        go_wp2_with (show Calls _ _ _ wr _; refine HCL.out.mono ?_; rintro e w1 ⟨rfl, hb⟩; have HB := Lib.hid hb; clear hb)
        go_ret
        refine ⟨_, rfl, ?_, HU.out.trans HB.out⟩
        rw [any_hit hkl (by rw [← HX.out]; exact HQ.out.symm)]
        exact decide_eq_true hk0
      | false =>
        go_wp2_with (show Calls _ _ _ wr _; refine HCL.out.mono ?_; rintro e w1 ⟨rfl, hb⟩; have HB := Lib.hid hb; clear hb)
        go_roundw
        case rel =>
          refine ⟨k + 1, by omega, by go_num, fun j hj hjk => ?_, HU.out.trans HB.out⟩
          rcases Nat.lt_or_ge j k with h | h
          · exact HT.out j hj h
          · obtain rfl : j = k := by omega
            rw [← HX.out]; exact HQ.out.symm
        case measure => simp [intOf]; omega
    · have hkn : k = n := by omega
      subst hkn
      go_wp2
      go_ret
      refine ⟨_, rfl, ?_, HU.out⟩
      rw [any_miss (fun j hj => HT.out j hj (by rw [HN.out]; exact hj))]
      decide
theorem hasI_any (w : World) (v : Value) (L : List (Int)) (h : Lst 1 numE w v L) (hL : L.length ≤ 1000000000) (g : Nat) (lb : Array Value) (p : Int → Bool) (hp : PredOk Try.prog g lb valI p L w)
    (eg : ∀ args w, (callFunc g args).run Try.prog w = .ok (.enter g args) w) : Calls Try.prog 90 #[v, .func (.func g) #[] lb] w (Gives w (.bool (L.any p))) := by
  have hcon := idxI_any w v L h hL g lb p hp eg
  go_enter Try.func90, Try.ntmps90
  go_wp2_with (go_at_call 101; refine hcon.mono ?_; rintro e w1 ⟨r, rfl, hr, hb⟩; have HR := Lib.hid hr; have HB := Lib.hid hb; clear hr hb)
  go_ret
  exact ⟨by rw [← HR.out]; rfl, HB.out⟩
theorem notI_any (w w1 : World) (L : List (Int)) (g : Nat) (lb : Array Value) (p : Int → Bool) (hp : PredOk Try.prog g lb valI p L w) (eg : ∀ args w, (callFunc g args).run Try.prog w = .ok (.enter g args) w)
    (B : Nat) (hc : w1.cell? ⟨B, 0, none⟩ = some (.func (.func g) #[] lb)) (hu : Kp w w1) : PredOk Try.prog 91 #[.pointer (some ⟨B, 0, none⟩)] valI (fun x => !p x) L w1 := fun W x hx hb => by
  have hc2 := hb.cellAt hc
  have hB := World.block_lt_of_cell? _ _ hc2
  have hB2 : B ≠ W.heap.size := by simp only at hB; omega
  have HC : Hid (∀ W', Kp W W' → Calls Try.prog g (#[valI x] ++ lb) W' (fun e w' => e = .returned (.bool (p x)) ∧ Kp W' w')) := Lib.hid (fun W' h => hp W' x hx ((hu.trans hb).trans h))
  clear hb hc hp hu
  obtain ⟨q, hq⟩ : ∃ q, q = p x := ⟨_, rfl⟩
  show Calls Try.prog 91 #[.int .i64 x, .pointer (some ⟨B, 0, none⟩)] W _
  simp only [← hq] at HC ⊢
  go_enter Try.func91, Try.ntmps91
  go_wp2_with (show Calls _ _ _ _ _; refine (HC.out _ (Upd.refl _ W)).mono ?_; rintro e w2 ⟨rfl, hb⟩; have HB := Lib.hid hb; clear hb)
  go_ret
  exact ⟨by rw [hq]; rfl, HB.out⟩
theorem allI_any (w : World) (v : Value) (L : List (Int)) (h : Lst 1 numE w v L) (hL : L.length ≤ 1000000000) (g : Nat) (lb : Array Value) (p : Int → Bool) (hp : PredOk Try.prog g lb valI p L w)
    (eg : ∀ args w, (callFunc g args).run Try.prog w = .ok (.enter g args) w) : Calls Try.prog 65 #[v, .func (.func g) #[] lb] w (Gives w (.bool (L.all p))) := by
  have hu : Kp w (w.alloc (.cells #[.func (.func g) #[] lb] 96)) := (Upd.refl _ w).alloc _
  have e1 : ∀ args w, (callFunc 91 args).run Try.prog w = .ok (.enter 91 args) w := Go.Proofs.enters_of Try.func91 (by kernel_rfl) rfl
  have hcon := hasI_any _ v L (h.upd hu) hL 91 #[.pointer (some ⟨w.heap.size, 0, none⟩)] _ (notI_any w _ L g lb p hp eg w.heap.size (by simp) hu) e1
  have HU := Lib.hid hu
  clear hu e1
  rw [← all_any]
  obtain ⟨r, hr⟩ : ∃ r, r = L.any (fun x => !p x) := ⟨_, rfl⟩
  rw [← hr] at hcon ⊢
  clear hr
  have HCON := Lib.hid hcon
  clear hcon
  go_enter Try.func65, Try.ntmps65
  go_wp2_with (go_at_call 90; refine HCON.out.mono ?_; rintro e w1 ⟨rfl, hb⟩; have HB := Lib.hid hb; clear hb)
  go_ret
  exact ⟨rfl, HU.out.trans HB.out⟩

abbrev valS (x : List UInt8) : Value := .string ⟨x.toArray⟩
set_option maxHeartbeats 1000000 in
theorem idxS_any (w : World) (v : Value) (L : List (List UInt8)) (h : Lst 1 strE w v L) (hL : L.length ≤ 1000000000) (g : Nat) (lb : Array Value) (p : List UInt8 → Bool) (hp : PredOk Try.prog g lb valS p L w)
    (eg : ∀ args w, (callFunc g args).run Try.prog w = .ok (.enter g args) w) : Calls Try.prog 103 #[v, .func (.func g) #[] lb] w (IdxPost p L w) := by
  obtain ⟨A, c, rfl, hA⟩ := h
  have H := Lib.hid hA
  obtain ⟨n, hn⟩ : ∃ n, n = L.length := ⟨_, rfl⟩
  rw [← hn] at hL ⊢
  have HN := Lib.hid hn
  have HP := Lib.hid hp
  clear hA hn hp
  go_enter Try.func103, Try.ntmps103
  go_wp2
  go_loopw [5, 8] (fun _ v wr => ∃ k : Nat, k ≤ n ∧ v = .int .i64 k ∧ (∀ j, ∀ hj : j < L.length, j < k → p L[j] = false) ∧ Kp w wr) (fun _ v _ => n - (intOf v).toNat)
  case atStart => exact ⟨0, Nat.zero_le _, rfl, by omega, Upd.refl _ _⟩
  case round =>
    obtain ⟨k, hk, rfl, ht, hu⟩ := hrel
    have HT := Lib.hid ht
    have HU := Lib.hid hu
    clear ht hu
    by_cases hlt : k < n
    · have hkl : k < L.length := by have := HN.out; omega
      obtain ⟨gA, oA, rfl, hc0⟩ := (H.out.upd HU.out).at1 hkl
      have hcall := HP.out wr L[k] (List.getElem_mem _) HU.out
      obtain ⟨x, hx⟩ : ∃ x, x = L[k] := ⟨_, rfl⟩
      rw [← hx] at hc0
      rw [← hx] at hcall
      have HX := Lib.hid hx
      clear hx
      have hk0 : (0 : Int) ≤ k := by omega
      have hk1 : (k : Int) < n := by omega
      obtain ⟨q, hq⟩ : ∃ q, q = p x := ⟨_, rfl⟩
      rw [← hq] at hcall
      have HQ := Lib.hid hq
      have HCL := Lib.hid hcall
      clear hq hcall
      cases q with
      | true =>
        go_wp2_with (show Calls _ _ _ wr _; refine HCL.out.mono ?_; rintro e w1 ⟨rfl, hb⟩; have HB := Lib.hid hb; clear hb)
        go_ret
        refine ⟨_, rfl, ?_, HU.out.trans HB.out⟩
        rw [any_hit hkl (by rw [← HX.out]; exact HQ.out.symm)]
        exact decide_eq_true hk0
      | false =>
        go_wp2_with (show Calls _ _ _ wr _; refine HCL.out.mono ?_; rintro e w1 ⟨rfl, hb⟩; have HB := Lib.hid hb; clear hb)
        go_roundw
        case rel =>
          refine ⟨k + 1, by omega, by go_num, fun j hj hjk => ?_, HU.out.trans HB.out⟩
          rcases Nat.lt_or_ge j k with h | h
          · exact HT.out j hj h
          · obtain rfl : j = k := by omega
            rw [← HX.out]; exact HQ.out.symm
        case measure => simp [intOf]; omega
    · have hkn : k = n := by omega
      subst hkn
      go_wp2
      go_ret
      refine ⟨_, rfl, ?_, HU.out⟩
      rw [any_miss (fun j hj => HT.out j hj (by rw [HN.out]; exact hj))]
      decide
theorem hasS_any (w : World) (v : Value) (L : List (List UInt8)) (h : Lst 1 strE w v L) (hL : L.length ≤ 1000000000) (g : Nat) (lb : Array Value) (p : List UInt8 → Bool) (hp : PredOk Try.prog g lb valS p L w)
    (eg : ∀ args w, (callFunc g args).run Try.prog w = .ok (.enter g args) w) : Calls Try.prog 94 #[v, .func (.func g) #[] lb] w (Gives w (.bool (L.any p))) := by
  have hcon := idxS_any w v L h hL g lb p hp eg
  go_enter Try.func94, Try.ntmps94
  go_wp2_with (go_at_call 103; refine hcon.mono ?_; rintro e w1 ⟨r, rfl, hr, hb⟩; have HR := Lib.hid hr; have HB := Lib.hid hb; clear hr hb)
  go_ret
  exact ⟨by rw [← HR.out]; rfl, HB.out⟩
theorem notS_any (w w1 : World) (L : List (List UInt8)) (g : Nat) (lb : Array Value) (p : List UInt8 → Bool) (hp : PredOk Try.prog g lb valS p L w) (eg : ∀ args w, (callFunc g args).run Try.prog w = .ok (.enter g args) w)
    (B : Nat) (hc : w1.cell? ⟨B, 0, none⟩ = some (.func (.func g) #[] lb)) (hu : Kp w w1) : PredOk Try.prog 95 #[.pointer (some ⟨B, 0, none⟩)] valS (fun x => !p x) L w1 := fun W x hx hb => by
  have hc2 := hb.cellAt hc
  have hB := World.block_lt_of_cell? _ _ hc2
  have hB2 : B ≠ W.heap.size := by simp only at hB; omega
  have HC : Hid (∀ W', Kp W W' → Calls Try.prog g (#[valS x] ++ lb) W' (fun e w' => e = .returned (.bool (p x)) ∧ Kp W' w')) := Lib.hid (fun W' h => hp W' x hx ((hu.trans hb).trans h))
  clear hb hc hp hu
  obtain ⟨q, hq⟩ : ∃ q, q = p x := ⟨_, rfl⟩
  show Calls Try.prog 95 #[.string ⟨x.toArray⟩, .pointer (some ⟨B, 0, none⟩)] W _
  simp only [← hq] at HC ⊢
  go_enter Try.func95, Try.ntmps95
  go_wp2_with (show Calls _ _ _ _ _; refine (HC.out _ (Upd.refl _ W)).mono ?_; rintro e w2 ⟨rfl, hb⟩; have HB := Lib.hid hb; clear hb)
  go_ret
  exact ⟨by rw [hq]; rfl, HB.out⟩
theorem allS_any (w : World) (v : Value) (L : List (List UInt8)) (h : Lst 1 strE w v L) (hL : L.length ≤ 1000000000) (g : Nat) (lb : Array Value) (p : List UInt8 → Bool) (hp : PredOk Try.prog g lb valS p L w)
    (eg : ∀ args w, (callFunc g args).run Try.prog w = .ok (.enter g args) w) : Calls Try.prog 71 #[v, .func (.func g) #[] lb] w (Gives w (.bool (L.all p))) := by
  have hu : Kp w (w.alloc (.cells #[.func (.func g) #[] lb] 81)) := (Upd.refl _ w).alloc _
  have e1 : ∀ args w, (callFunc 95 args).run Try.prog w = .ok (.enter 95 args) w := Go.Proofs.enters_of Try.func95 (by kernel_rfl) rfl
  have hcon := hasS_any _ v L (h.upd hu) hL 95 #[.pointer (some ⟨w.heap.size, 0, none⟩)] _ (notS_any w _ L g lb p hp eg w.heap.size (by simp) hu) e1
  have HU := Lib.hid hu
  clear hu e1
  rw [← all_any]
  obtain ⟨r, hr⟩ : ∃ r, r = L.any (fun x => !p x) := ⟨_, rfl⟩
  rw [← hr] at hcon ⊢
  clear hr
  have HCON := Lib.hid hcon
  clear hcon
  go_enter Try.func71, Try.ntmps71
  go_wp2_with (go_at_call 94; refine HCON.out.mono ?_; rintro e w1 ⟨rfl, hb⟩; have HB := Lib.hid hb; clear hb)
  go_ret
  exact ⟨rfl, HU.out.trans HB.out⟩

abbrev valT (x : Int × Int) : Value := .agg #[.int .i64 x.1, .int .i64 x.2]
set_option maxHeartbeats 1000000 in
theorem idxT_any (w : World) (v : Value) (L : List (Int × Int)) (h : Lst 2 tierE w v L) (hL : L.length ≤ 1000000000) (g : Nat) (lb : Array Value) (p : Int × Int → Bool) (hp : PredOk Try.prog g lb valT p L w)
    (eg : ∀ args w, (callFunc g args).run Try.prog w = .ok (.enter g args) w) : Calls Try.prog 104 #[v, .func (.func g) #[] lb] w (IdxPost p L w) := by
  obtain ⟨A, c, rfl, hA⟩ := h
  have H := Lib.hid hA
  obtain ⟨n, hn⟩ : ∃ n, n = L.length := ⟨_, rfl⟩
  rw [← hn] at hL ⊢
  have HN := Lib.hid hn
  have HP := Lib.hid hp
  clear hA hn hp
  go_enter Try.func104, Try.ntmps104
  go_wp2
  go_loopw [5, 8] (fun _ v wr => ∃ k : Nat, k ≤ n ∧ v = .int .i64 k ∧ (∀ j, ∀ hj : j < L.length, j < k → p L[j] = false) ∧ Kp w wr) (fun _ v _ => n - (intOf v).toNat)
  case atStart => exact ⟨0, Nat.zero_le _, rfl, by omega, Upd.refl _ _⟩
  case round =>
    obtain ⟨k, hk, rfl, ht, hu⟩ := hrel
    have HT := Lib.hid ht
    have HU := Lib.hid hu
    clear ht hu
    by_cases hlt : k < n
    · have hkl : k < L.length := by have := HN.out; omega
      obtain ⟨gA, oA, rfl, hc0, hc1⟩ := (H.out.upd HU.out).at2 hkl
      have hcall := HP.out wr L[k] (List.getElem_mem _) HU.out
      obtain ⟨x, hx⟩ : ∃ x, x = L[k] := ⟨_, rfl⟩
      rw [← hx] at hc0
      rw [← hx] at hc1
      rw [← hx] at hcall
      have HX := Lib.hid hx
      clear hx
      have hk0 : (0 : Int) ≤ k := by omega
      have hk1 : (k : Int) < n := by omega
      obtain ⟨q, hq⟩ : ∃ q, q = p x := ⟨_, rfl⟩
      rw [← hq] at hcall
      have HQ := Lib.hid hq
      have HCL := Lib.hid hcall
      clear hq hcall
      cases q with
      | true =>
        go_wp2_with (show Calls _ _ _ wr _; refine HCL.out.mono ?_; rintro e w1 ⟨rfl, hb⟩; have HB := Lib.hid hb; clear hb)
        go_ret
        refine ⟨_, rfl, ?_, HU.out.trans HB.out⟩
        rw [any_hit hkl (by rw [← HX.out]; exact HQ.out.symm)]
        exact decide_eq_true hk0
      | false =>
        go_wp2_with (show Calls _ _ _ wr _; refine HCL.out.mono ?_; rintro e w1 ⟨rfl, hb⟩; have HB := Lib.hid hb; clear hb)
        go_roundw
        case rel =>
          refine ⟨k + 1, by omega, by go_num, fun j hj hjk => ?_, HU.out.trans HB.out⟩
          rcases Nat.lt_or_ge j k with h | h
          · exact HT.out j hj h
          · obtain rfl : j = k := by omega
            rw [← HX.out]; exact HQ.out.symm
        case measure => simp [intOf]; omega
    · have hkn : k = n := by omega
      subst hkn
      go_wp2
      go_ret
      refine ⟨_, rfl, ?_, HU.out⟩
      rw [any_miss (fun j hj => HT.out j hj (by rw [HN.out]; exact hj))]
      decide
theorem hasT_any (w : World) (v : Value) (L : List (Int × Int)) (h : Lst 2 tierE w v L) (hL : L.length ≤ 1000000000) (g : Nat) (lb : Array Value) (p : Int × Int → Bool) (hp : PredOk Try.prog g lb valT p L w)
    (eg : ∀ args w, (callFunc g args).run Try.prog w = .ok (.enter g args) w) : Calls Try.prog 96 #[v, .func (.func g) #[] lb] w (Gives w (.bool (L.any p))) := by
  have hcon := idxT_any w v L h hL g lb p hp eg
  go_enter Try.func96, Try.ntmps96
  go_wp2_with (go_at_call 104; refine hcon.mono ?_; rintro e w1 ⟨r, rfl, hr, hb⟩; have HR := Lib.hid hr; have HB := Lib.hid hb; clear hr hb)
  go_ret
  exact ⟨by rw [← HR.out]; rfl, HB.out⟩
theorem notT_any (w w1 : World) (L : List (Int × Int)) (g : Nat) (lb : Array Value) (p : Int × Int → Bool) (hp : PredOk Try.prog g lb valT p L w) (eg : ∀ args w, (callFunc g args).run Try.prog w = .ok (.enter g args) w)
    (B : Nat) (hc : w1.cell? ⟨B, 0, none⟩ = some (.func (.func g) #[] lb)) (hu : Kp w w1) : PredOk Try.prog 97 #[.pointer (some ⟨B, 0, none⟩)] valT (fun x => !p x) L w1 := fun W x hx hb => by
  have hc2 := hb.cellAt hc
  have hB := World.block_lt_of_cell? _ _ hc2
  have hB2 : B ≠ W.heap.size := by simp only at hB; omega
  have HC : Hid (∀ W', Kp W W' → Calls Try.prog g (#[valT x] ++ lb) W' (fun e w' => e = .returned (.bool (p x)) ∧ Kp W' w')) := Lib.hid (fun W' h => hp W' x hx ((hu.trans hb).trans h))
  clear hb hc hp hu
  obtain ⟨q, hq⟩ : ∃ q, q = p x := ⟨_, rfl⟩
  show Calls Try.prog 97 #[.agg #[.int .i64 x.1, .int .i64 x.2], .pointer (some ⟨B, 0, none⟩)] W _
  simp only [← hq] at HC ⊢
  go_enter Try.func97, Try.ntmps97
  go_wp2_with (show Calls _ _ _ _ _; refine (HC.out _ ((Upd.refl _ W).alloc _)).mono ?_; rintro e w2 ⟨rfl, hb⟩; have HB := Lib.hid hb; clear hb)
  go_ret
  exact ⟨by rw [hq]; rfl, Kp.trans ((Upd.refl _ W).alloc _) HB.out⟩
theorem allT_any (w : World) (v : Value) (L : List (Int × Int)) (h : Lst 2 tierE w v L) (hL : L.length ≤ 1000000000) (g : Nat) (lb : Array Value) (p : Int × Int → Bool) (hp : PredOk Try.prog g lb valT p L w)
    (eg : ∀ args w, (callFunc g args).run Try.prog w = .ok (.enter g args) w) : Calls Try.prog 78 #[v, .func (.func g) #[] lb] w (Gives w (.bool (L.all p))) := by
  have hu : Kp w (w.alloc (.cells #[.func (.func g) #[] lb] 107)) := (Upd.refl _ w).alloc _
  have e1 : ∀ args w, (callFunc 97 args).run Try.prog w = .ok (.enter 97 args) w := Go.Proofs.enters_of Try.func97 (by kernel_rfl) rfl
  have hcon := hasT_any _ v L (h.upd hu) hL 97 #[.pointer (some ⟨w.heap.size, 0, none⟩)] _ (notT_any w _ L g lb p hp eg w.heap.size (by simp) hu) e1
  have HU := Lib.hid hu
  clear hu e1
  rw [← all_any]
  obtain ⟨r, hr⟩ : ∃ r, r = L.any (fun x => !p x) := ⟨_, rfl⟩
  rw [← hr] at hcon ⊢
  clear hr
  have HCON := Lib.hid hcon
  clear hcon
  go_enter Try.func78, Try.ntmps78
  go_wp2_with (go_at_call 96; refine HCON.out.mono ?_; rintro e w1 ⟨rfl, hb⟩; have HB := Lib.hid hb; clear hb)
  go_ret
  exact ⟨rfl, HU.out.trans HB.out⟩

abbrev valP (x : List UInt8 × Int) : Value := .agg #[.string ⟨x.1.toArray⟩, .int .i64 x.2]
set_option maxHeartbeats 1000000 in
theorem idxP_any (w : World) (v : Value) (L : List (List UInt8 × Int)) (h : Lst 2 placeE w v L) (hL : L.length ≤ 1000000000) (g : Nat) (lb : Array Value) (p : List UInt8 × Int → Bool) (hp : PredOk Try.prog g lb valP p L w)
    (eg : ∀ args w, (callFunc g args).run Try.prog w = .ok (.enter g args) w) : Calls Try.prog 93 #[v, .func (.func g) #[] lb] w (IdxPost p L w) := by
  obtain ⟨A, c, rfl, hA⟩ := h
  have H := Lib.hid hA
  obtain ⟨n, hn⟩ : ∃ n, n = L.length := ⟨_, rfl⟩
  rw [← hn] at hL ⊢
  have HN := Lib.hid hn
  have HP := Lib.hid hp
  clear hA hn hp
  go_enter Try.func93, Try.ntmps93
  go_wp2
  go_loopw [5, 8] (fun _ v wr => ∃ k : Nat, k ≤ n ∧ v = .int .i64 k ∧ (∀ j, ∀ hj : j < L.length, j < k → p L[j] = false) ∧ Kp w wr) (fun _ v _ => n - (intOf v).toNat)
  case atStart => exact ⟨0, Nat.zero_le _, rfl, by omega, Upd.refl _ _⟩
  case round =>
    obtain ⟨k, hk, rfl, ht, hu⟩ := hrel
    have HT := Lib.hid ht
    have HU := Lib.hid hu
    clear ht hu
    by_cases hlt : k < n
    · have hkl : k < L.length := by have := HN.out; omega
      obtain ⟨gA, oA, rfl, hc0, hc1⟩ := (H.out.upd HU.out).at2 hkl
      have hcall := HP.out wr L[k] (List.getElem_mem _) HU.out
      obtain ⟨x, hx⟩ : ∃ x, x = L[k] := ⟨_, rfl⟩
      rw [← hx] at hc0
      rw [← hx] at hc1
      rw [← hx] at hcall
      have HX := Lib.hid hx
      clear hx
      have hk0 : (0 : Int) ≤ k := by omega
      have hk1 : (k : Int) < n := by omega
      obtain ⟨q, hq⟩ : ∃ q, q = p x := ⟨_, rfl⟩
      rw [← hq] at hcall
      have HQ := Lib.hid hq
      have HCL := Lib.hid hcall
      clear hq hcall
      cases q with
      | true =>
        go_wp2_with (show Calls _ _ _ wr _; refine HCL.out.mono ?_; rintro e w1 ⟨rfl, hb⟩; have HB := Lib.hid hb; clear hb)
        go_ret
        refine ⟨_, rfl, ?_, HU.out.trans HB.out⟩
        rw [any_hit hkl (by rw [← HX.out]; exact HQ.out.symm)]
        exact decide_eq_true hk0
      | false =>
        go_wp2_with (show Calls _ _ _ wr _; refine HCL.out.mono ?_; rintro e w1 ⟨rfl, hb⟩; have HB := Lib.hid hb; clear hb)
        go_roundw
        case rel =>
          refine ⟨k + 1, by omega, by go_num, fun j hj hjk => ?_, HU.out.trans HB.out⟩
          rcases Nat.lt_or_ge j k with h | h
          · exact HT.out j hj h
          · obtain rfl : j = k := by omega
            rw [← HX.out]; exact HQ.out.symm
        case measure => simp [intOf]; omega
    · have hkn : k = n := by omega
      subst hkn
      go_wp2
      go_ret
      refine ⟨_, rfl, ?_, HU.out⟩
      rw [any_miss (fun j hj => HT.out j hj (by rw [HN.out]; exact hj))]
      decide
theorem hasP_any (w : World) (v : Value) (L : List (List UInt8 × Int)) (h : Lst 2 placeE w v L) (hL : L.length ≤ 1000000000) (g : Nat) (lb : Array Value) (p : List UInt8 × Int → Bool) (hp : PredOk Try.prog g lb valP p L w)
    (eg : ∀ args w, (callFunc g args).run Try.prog w = .ok (.enter g args) w) : Calls Try.prog 69 #[v, .func (.func g) #[] lb] w (Gives w (.bool (L.any p))) := by
  have hcon := idxP_any w v L h hL g lb p hp eg
  go_enter Try.func69, Try.ntmps69
  go_wp2_with (go_at_call 93; refine hcon.mono ?_; rintro e w1 ⟨r, rfl, hr, hb⟩; have HR := Lib.hid hr; have HB := Lib.hid hb; clear hr hb)
  go_ret
  exact ⟨by rw [← HR.out]; rfl, HB.out⟩
theorem notP_any (w w1 : World) (L : List (List UInt8 × Int)) (g : Nat) (lb : Array Value) (p : List UInt8 × Int → Bool) (hp : PredOk Try.prog g lb valP p L w) (eg : ∀ args w, (callFunc g args).run Try.prog w = .ok (.enter g args) w)
    (B : Nat) (hc : w1.cell? ⟨B, 0, none⟩ = some (.func (.func g) #[] lb)) (hu : Kp w w1) : PredOk Try.prog 98 #[.pointer (some ⟨B, 0, none⟩)] valP (fun x => !p x) L w1 := fun W x hx hb => by
  have hc2 := hb.cellAt hc
  have hB := World.block_lt_of_cell? _ _ hc2
  have hB2 : B ≠ W.heap.size := by simp only at hB; omega
  have HC : Hid (∀ W', Kp W W' → Calls Try.prog g (#[valP x] ++ lb) W' (fun e w' => e = .returned (.bool (p x)) ∧ Kp W' w')) := Lib.hid (fun W' h => hp W' x hx ((hu.trans hb).trans h))
  clear hb hc hp hu
  obtain ⟨q, hq⟩ : ∃ q, q = p x := ⟨_, rfl⟩
  show Calls Try.prog 98 #[.agg #[.string ⟨x.1.toArray⟩, .int .i64 x.2], .pointer (some ⟨B, 0, none⟩)] W _
  simp only [← hq] at HC ⊢
  go_enter Try.func98, Try.ntmps98
  go_wp2_with (show Calls _ _ _ _ _; refine (HC.out _ ((Upd.refl _ W).alloc _)).mono ?_; rintro e w2 ⟨rfl, hb⟩; have HB := Lib.hid hb; clear hb)
  go_ret
  exact ⟨by rw [hq]; rfl, Kp.trans ((Upd.refl _ W).alloc _) HB.out⟩
theorem allP_any (w : World) (v : Value) (L : List (List UInt8 × Int)) (h : Lst 2 placeE w v L) (hL : L.length ≤ 1000000000) (g : Nat) (lb : Array Value) (p : List UInt8 × Int → Bool) (hp : PredOk Try.prog g lb valP p L w)
    (eg : ∀ args w, (callFunc g args).run Try.prog w = .ok (.enter g args) w) : Calls Try.prog 84 #[v, .func (.func g) #[] lb] w (Gives w (.bool (L.all p))) := by
  have hu : Kp w (w.alloc (.cells #[.func (.func g) #[] lb] 98)) := (Upd.refl _ w).alloc _
  have e1 : ∀ args w, (callFunc 98 args).run Try.prog w = .ok (.enter 98 args) w := Go.Proofs.enters_of Try.func98 (by kernel_rfl) rfl
  have hcon := hasP_any _ v L (h.upd hu) hL 98 #[.pointer (some ⟨w.heap.size, 0, none⟩)] _ (notP_any w _ L g lb p hp eg w.heap.size (by simp) hu) e1
  have HU := Lib.hid hu
  clear hu e1
  rw [← all_any]
  obtain ⟨r, hr⟩ : ∃ r, r = L.any (fun x => !p x) := ⟨_, rfl⟩
  rw [← hr] at hcon ⊢
  clear hr
  have HCON := Lib.hid hcon
  clear hcon
  go_enter Try.func84, Try.ntmps84
  go_wp2_with (go_at_call 69; refine HCON.out.mono ?_; rintro e w1 ⟨rfl, hb⟩; have HB := Lib.hid hb; clear hb)
  go_ret
  exact ⟨rfl, HU.out.trans HB.out⟩

abbrev valQ (x : List UInt8 × Int × Int) : Value := .agg #[.string ⟨x.1.toArray⟩, .int .i64 x.2.1, .int .i64 x.2.2]
set_option maxHeartbeats 1000000 in
theorem idxQ_any (w : World) (v : Value) (L : List (List UInt8 × Int × Int)) (h : Lst 3 quotaE w v L) (hL : L.length ≤ 1000000000) (g : Nat) (lb : Array Value) (p : List UInt8 × Int × Int → Bool) (hp : PredOk Try.prog g lb valQ p L w)
    (eg : ∀ args w, (callFunc g args).run Try.prog w = .ok (.enter g args) w) : Calls Try.prog 105 #[v, .func (.func g) #[] lb] w (IdxPost p L w) := by
  obtain ⟨A, c, rfl, hA⟩ := h
  have H := Lib.hid hA
  obtain ⟨n, hn⟩ : ∃ n, n = L.length := ⟨_, rfl⟩
  rw [← hn] at hL ⊢
  have HN := Lib.hid hn
  have HP := Lib.hid hp
  clear hA hn hp
  go_enter Try.func105, Try.ntmps105
  go_wp2
  go_loopw [5, 8] (fun _ v wr => ∃ k : Nat, k ≤ n ∧ v = .int .i64 k ∧ (∀ j, ∀ hj : j < L.length, j < k → p L[j] = false) ∧ Kp w wr) (fun _ v _ => n - (intOf v).toNat)
  case atStart => exact ⟨0, Nat.zero_le _, rfl, by omega, Upd.refl _ _⟩
  case round =>
    obtain ⟨k, hk, rfl, ht, hu⟩ := hrel
    have HT := Lib.hid ht
    have HU := Lib.hid hu
    clear ht hu
    by_cases hlt : k < n
    · have hkl : k < L.length := by have := HN.out; omega
      obtain ⟨gA, oA, rfl, hc0, hc1, hc2⟩ := (H.out.upd HU.out).at3 hkl
      have hcall := HP.out wr L[k] (List.getElem_mem _) HU.out
      obtain ⟨x, hx⟩ : ∃ x, x = L[k] := ⟨_, rfl⟩
      rw [← hx] at hc0
      rw [← hx] at hc1
      rw [← hx] at hc2
      rw [← hx] at hcall
      have HX := Lib.hid hx
      clear hx
      have hk0 : (0 : Int) ≤ k := by omega
      have hk1 : (k : Int) < n := by omega
      obtain ⟨q, hq⟩ : ∃ q, q = p x := ⟨_, rfl⟩
      rw [← hq] at hcall
      have HQ := Lib.hid hq
      have HCL := Lib.hid hcall
      clear hq hcall
      cases q with
      | true =>
        go_wp2_with (show Calls _ _ _ wr _; refine HCL.out.mono ?_; rintro e w1 ⟨rfl, hb⟩; have HB := Lib.hid hb; clear hb)
        go_ret
        refine ⟨_, rfl, ?_, HU.out.trans HB.out⟩
        rw [any_hit hkl (by rw [← HX.out]; exact HQ.out.symm)]
        exact decide_eq_true hk0
      | false =>
        go_wp2_with (show Calls _ _ _ wr _; refine HCL.out.mono ?_; rintro e w1 ⟨rfl, hb⟩; have HB := Lib.hid hb; clear hb)
        go_roundw
        case rel =>
          refine ⟨k + 1, by omega, by go_num, fun j hj hjk => ?_, HU.out.trans HB.out⟩
          rcases Nat.lt_or_ge j k with h | h
          · exact HT.out j hj h
          · obtain rfl : j = k := by omega
            rw [← HX.out]; exact HQ.out.symm
        case measure => simp [intOf]; omega
    · have hkn : k = n := by omega
      subst hkn
      go_wp2
      go_ret
      refine ⟨_, rfl, ?_, HU.out⟩
      rw [any_miss (fun j hj => HT.out j hj (by rw [HN.out]; exact hj))]
      decide
theorem hasQ_any (w : World) (v : Value) (L : List (List UInt8 × Int × Int)) (h : Lst 3 quotaE w v L) (hL : L.length ≤ 1000000000) (g : Nat) (lb : Array Value) (p : List UInt8 × Int × Int → Bool) (hp : PredOk Try.prog g lb valQ p L w)
    (eg : ∀ args w, (callFunc g args).run Try.prog w = .ok (.enter g args) w) : Calls Try.prog 99 #[v, .func (.func g) #[] lb] w (Gives w (.bool (L.any p))) := by
  have hcon := idxQ_any w v L h hL g lb p hp eg
  go_enter Try.func99, Try.ntmps99
  go_wp2_with (go_at_call 105; refine hcon.mono ?_; rintro e w1 ⟨r, rfl, hr, hb⟩; have HR := Lib.hid hr; have HB := Lib.hid hb; clear hr hb)
  go_ret
  exact ⟨by rw [← HR.out]; rfl, HB.out⟩
theorem notQ_any (w w1 : World) (L : List (List UInt8 × Int × Int)) (g : Nat) (lb : Array Value) (p : List UInt8 × Int × Int → Bool) (hp : PredOk Try.prog g lb valQ p L w) (eg : ∀ args w, (callFunc g args).run Try.prog w = .ok (.enter g args) w)
    (B : Nat) (hc : w1.cell? ⟨B, 0, none⟩ = some (.func (.func g) #[] lb)) (hu : Kp w w1) : PredOk Try.prog 100 #[.pointer (some ⟨B, 0, none⟩)] valQ (fun x => !p x) L w1 := fun W x hx hb => by
  have hc2 := hb.cellAt hc
  have hB := World.block_lt_of_cell? _ _ hc2
  have hB2 : B ≠ W.heap.size := by simp only at hB; omega
  have HC : Hid (∀ W', Kp W W' → Calls Try.prog g (#[valQ x] ++ lb) W' (fun e w' => e = .returned (.bool (p x)) ∧ Kp W' w')) := Lib.hid (fun W' h => hp W' x hx ((hu.trans hb).trans h))
  clear hb hc hp hu
  obtain ⟨q, hq⟩ : ∃ q, q = p x := ⟨_, rfl⟩
  show Calls Try.prog 100 #[.agg #[.string ⟨x.1.toArray⟩, .int .i64 x.2.1, .int .i64 x.2.2], .pointer (some ⟨B, 0, none⟩)] W _
  simp only [← hq] at HC ⊢
  go_enter Try.func100, Try.ntmps100
  go_wp2_with (show Calls _ _ _ _ _; refine (HC.out _ ((Upd.refl _ W).alloc _)).mono ?_; rintro e w2 ⟨rfl, hb⟩; have HB := Lib.hid hb; clear hb)
  go_ret
  exact ⟨by rw [hq]; rfl, Kp.trans ((Upd.refl _ W).alloc _) HB.out⟩
theorem allQ_any (w : World) (v : Value) (L : List (List UInt8 × Int × Int)) (h : Lst 3 quotaE w v L) (hL : L.length ≤ 1000000000) (g : Nat) (lb : Array Value) (p : List UInt8 × Int × Int → Bool) (hp : PredOk Try.prog g lb valQ p L w)
    (eg : ∀ args w, (callFunc g args).run Try.prog w = .ok (.enter g args) w) : Calls Try.prog 88 #[v, .func (.func g) #[] lb] w (Gives w (.bool (L.all p))) := by
  have hu : Kp w (w.alloc (.cells #[.func (.func g) #[] lb] 115)) := (Upd.refl _ w).alloc _
  have e1 : ∀ args w, (callFunc 100 args).run Try.prog w = .ok (.enter 100 args) w := Go.Proofs.enters_of Try.func100 (by kernel_rfl) rfl
  have hcon := hasQ_any _ v L (h.upd hu) hL 100 #[.pointer (some ⟨w.heap.size, 0, none⟩)] _ (notQ_any w _ L g lb p hp eg w.heap.size (by simp) hu) e1
  have HU := Lib.hid hu
  clear hu e1
  rw [← all_any]
  obtain ⟨r, hr⟩ : ∃ r, r = L.any (fun x => !p x) := ⟨_, rfl⟩
  rw [← hr] at hcon ⊢
  clear hr
  have HCON := Lib.hid hcon
  clear hcon
  go_enter Try.func88, Try.ntmps88
  go_wp2_with (go_at_call 99; refine HCON.out.mono ?_; rintro e w1 ⟨rfl, hb⟩; have HB := Lib.hid hb; clear hb)
  go_ret
  exact ⟨rfl, HU.out.trans HB.out⟩
end Go.Proofs.Ytaejnhgnacgheaa
