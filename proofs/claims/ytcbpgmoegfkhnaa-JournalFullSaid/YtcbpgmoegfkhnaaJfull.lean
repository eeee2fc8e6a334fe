/- JournalFull returns true, whatever its arguments. -/
import Derived.Test.YtcbpgmoegfkhnaaJlaw
namespace Go.Proofs.Ytcbpgmoegfkhnaa
set_option linter.unusedVariables false
open Go.RowKit

/-- numbers of one kind -/
def kvf (k : IntKind) (q : List Int) : List Value := q.map (Value.int k)
theorem kvf_get {W w' : World} {A : Option Addr} {n c k : Nat} {kd : IntKind} {q : List Int} (h : Rd W (.slice A n c) 1 n (kvf kd q)) (hk : k < n) (hu : Upd (fun _ => False) W w') : ∃ g o x, A = some ⟨g, o, none⟩ ∧ x ∈ q ∧ w'.cell? ⟨g, o + k, none⟩ = some (.int kd x) := by
  obtain ⟨g, o, rfl⟩ := h.some_ (by omega)
  have hl : q.length = n := by have := h.1; simpa [kvf] using this
  have hc := h.cellAt (j := k) (u := .int kd q[k]) (by simp [kvf, List.getElem?_eq_getElem (show k < q.length by omega)])
  exact ⟨g, o, q[k], rfl, List.getElem_mem _, (hu.cell (World.block_lt_of_cell? _ _ hc) id).trans hc⟩
theorem new_texts {w w4 : World} {v : Value} {n : Nat} (hN : NewRow w v 5 1 n (List.replicate n (.int .u8 0)) w4) : ∃ (zs : List UInt8) (A : Option Addr) (c : Nat), v = .slice A n c ∧ zs.length = n ∧ n ≤ c ∧ ∀ W m, Own W w m → Own W w4 (.sl v 5 1 (bvs zs) :: m) := by
  obtain ⟨h1, h2, h3, h4⟩ := hN
  rw [bvs_zeros] at h1
  obtain ⟨A, c, hv, hc⟩ := h1.form
  refine ⟨List.replicate n 0, A, c, hv, by simp, hc, fun W m h => h.more h2 ⟨n, h1, fun k hk => ?_⟩⟩
  rw [h3] at hk
  cases hk
  exact ⟨Nat.le_refl _, by omega⟩
theorem text_upto {w : World} {A : Option Addr} {n c k : Nat} {zs : List UInt8} {W : World} {m : List Item} (h : Own W w m) (i : Nat) (hi : m[i]? = some (.sl (.slice A n c) 5 1 (bvs zs))) (hk : k ≤ n) (hz : zs.length = n) : Rd w (.slice A k c) 1 k (bvs (zs.take k)) ∧ (zs.take k).length = k := by
  obtain ⟨n2, hrd, _⟩ := sl_read h i hi
  obtain ⟨h1, A', c', he, h2, h3, h4⟩ := hrd
  cases he
  refine ⟨⟨by rw [bvs_length, List.length_take]; omega, A, c, rfl, by omega, fun e => by have := h3 e; omega, fun ad hA => ⟨(h4 ad hA).1, fun j u hu => (h4 ad hA).2 j u ?_⟩⟩, by rw [List.length_take]; omega⟩
  rw [bvs_get, List.getElem?_take] at hu
  rw [bvs_get]
  split at hu
  · exact hu
  · simp at hu
theorem on_append_big {W w : World} {bj bd : Nat} {M : List Item} {j : JSt} (h : Own W w (.row bj 61 (jS bd j) :: M)) (i : Nat) {s : DSt} (hi : M[i]? = some (.disk bd s)) {L : List (List UInt8)} {n : Nat} (hj : JOn s j L n) (hn : n ≤ 1490) (r : List UInt8) (hL : L.length ≤ 1000000000) (hr : r.length ≤ 16777216) (hB : lensI L ≤ 16777216) (hfit : 16777216 < lensI L + r.length + 16 + 256) :
    Calls Try.prog 13 #[.pointer (some ⟨bj, 0, none⟩), .string ⟨r.toArray⟩] w (XPost W (.row bj 61 (jS bd j) :: M) (.int .i64 2)) := by
  have hb := hj.good.bytes
  have e1 := append_big (s := s) (j := j) r hj.good.broken (by rw [hb]; exact hfit)
  have hF := hj.good.fit hj.opened hL (by omega)
  have hc := append_any h i hi hj.fit hn hF r (by omega)
  rw [e1] at hc
  exact hc.mono fun e w' ⟨he, ho⟩ => ⟨he, by rw [set_same i hi] at ho; exact ho⟩

set_option maxHeartbeats 8000000 in
set_option maxRecDepth 20000 in
theorem full_true (W : World) (A0 : Option Addr) (n0 c0 : Nat) (q0 : List Int) (hr0 : Rd W (.slice A0 n0 c0) 1 n0 (kvf .u32 q0)) (hm0 : n0 ≤ maxLen) (hx0 : ∀ x, x ∈ q0 → (0 : Int) ≤ x ∧ x < 4294967296) (z1 : Int) (hz1 : 0 ≤ z1) (hy1 : z1 < 4294967296) :
    Calls Try.prog 7 #[.slice A0 n0 c0, .int .u32 z1] W (Sane W) := by
  have HA := Lib.hid hr0
  have HX := Lib.hid hx0
  unfold maxLen at hm0
  clear hr0 hx0
  obtain ⟨p, hp⟩ : ∃ p : Nat, z1 % 16777216 = p := ⟨(z1 % 16777216).toNat, by omega⟩
  have hp1 : p < 16777216 := by omega
  have hp2 : z1.tmod 16777216 = p := by rw [Int.tmod_eq_emod_of_nonneg hz1]; exact hp
  have hp3 : IntKind.u32.wrap (p : Int) = p := by apply IntWalk.u32_in <;> omega
  have HP := Lib.hid (And.intro hp1 (And.intro hp2 hp3))
  clear hp hp1 hp2 hp3 hz1 hy1
  have H0 : Hid (Own W W []) := Lib.hid (Own.start W)
  obtain ⟨N, hN0⟩ : ∃ N : Nat, N = 16777216 := ⟨_, rfl⟩
  have HN := Lib.hid hN0
  clear hN0
  go_enter Try.func7, Try.ntmps7
  go_wp2_with (first
    | (go_at_call 9; go_must (refine (sanity_any _).mono ?_; rintro e w1 ⟨rfl, hu⟩; have H1 := Lib.hid (H0.out.far hu); clear hu))
    | (go_at_call 10; show Calls _ _ _ w1 _; go_must (refine (own_new H1.out).mono ?_; rintro e w2 ⟨b, rfl, h⟩; have H2 : Hid (Own W w2 ([.disk b newSt])) := Lib.hid h; clear h))
    | (go_at_call 11; show Calls _ _ _ w2 _; go_must (refine (on_open H2.out 0 rfl DOn.new (by decide)).mono ?_; rintro e w3 ⟨bj, Ax, cx, rfl, h⟩; have H3 : Hid (Own W w3 [.row bj 61 (jS b (jOpen 0 [])), .disk b (syncedSt newSt)]) := Lib.hid h.drop1; clear h))
    | (show wpList _ _ _ (⟨some 36, _, _, _, _, _⟩ :: _) _ _; go_must (refine wpList_make_zeros rfl (.const (.int .i64 16777216)) (.const (.int .i64 16777216)) _ rfl T_bytes rfl (n := N) (m := N) (by rw [HN.out]; rfl) (by rw [HN.out]; rfl) (Nat.le_refl _) (by have := HN.out; omega) (by have := HN.out; unfold maxLen; omega) ?_); intro v1 w4 hN; obtain ⟨zs, A1, c1, rfl, hzl, hzc, hgo⟩ := new_texts hN; have H4 : Hid (Own W w4 [.row bj 61 (jS b (jOpen 0 [])), .sl (.slice A1 N c1) 5 1 (bvs zs), .disk b (syncedSt newSt)]) := Lib.hid (hgo _ _ H3.out).swap; clear hgo hN))
  have ZL := Lib.hid hzl
  have HZC := Lib.hid hzc
  clear hzl hzc
  go_loopw [10, 11, 13] (fun v10 v11 v wr => ∃ (k : Nat) (s : DSt) (j : JSt) (L : List (List UInt8)) (B : Int) (mm : Nat), k ≤ n0 ∧ k ≤ 6 ∧ v10 = .int .i64 B ∧ v11 = .int .i64 mm ∧ v = .int .i64 k ∧ Own W wr [.row bj 61 (jS b j), .sl (.slice A1 N c1) 5 1 (bvs zs), .disk b s] ∧ JOn s j L (4 * k + 1) ∧ L.length = mm ∧ mm ≤ k ∧ lensI L = B ∧ 0 ≤ B ∧ B ≤ 16777216) (fun _ _ v _ => n0 - (intOf v).toNat)
  case atStart => exact ⟨0, _, _, [], 0, 0, Nat.zero_le _, Nat.zero_le _, rfl, rfl, rfl, H4.out, DOn.new.on, rfl, Nat.le_refl _, rfl, by decide, by decide⟩
  case round =>
    obtain ⟨k, s, j, L, B, mm, hkn, hk6, rfl, rfl, rfl, h, hj, hL, hmk, hB, hB0, hB1⟩ := hrel
    have H := Lib.hid h
    have HJ := Lib.hid hj
    have HL := Lib.hid hL
    have HB := Lib.hid hB
    clear h hj hL hB
    by_cases hlt : k < n0
    · by_cases hlt2 : k < 6
      · obtain ⟨g, o, x, rfl, hxm, c0⟩ := kvf_get HA.out hlt H.out.upd
        obtain ⟨hx1, hx2⟩ := HX.out x hxm
        obtain ⟨t, ht⟩ : ∃ t : Nat, x % 8388608 = t := ⟨(x % 8388608).toNat, by omega⟩
        have ht1 : t < 8388608 := by omega
        have ht2 : x.tmod 8388608 = t := by rw [Int.tmod_eq_emod_of_nonneg hx1]; exact ht
        have ht3 : IntKind.u32.wrap (t : Int) = t := by apply IntWalk.u32_in <;> omega
        obtain ⟨hrd, hrl⟩ := text_upto (k := t) H.out 1 rfl (by have := HN.out; omega) ZL.out
        obtain ⟨r, hr⟩ : ∃ r, r = zs.take t := ⟨_, rfl⟩
        rw [← hr] at hrd hrl
        have htc : (t : Int) ≤ (c1 : Int) := (by have := HZC.out; have := HN.out; omega)
        have HRD := Lib.hid hrd
        have HRL := Lib.hid hrl
        clear ht hxm hrd hrl hr hx1 hx2
        by_cases hfit : B + (t : Int) + 16 + 256 ≤ 16777216
        · go_wp2_with (first
            | (show wpList _ _ _ (⟨some 57, _, _, _, _, _⟩ :: _) _ _; go_must (refine wpList_string_rd rfl _ _ _ (.tmp 56) rfl Try.underlying43 Try.underlying5 Try.underlying9 rfl HRD.out ?_))
            | (go_at_call 13; go_must (refine (on_append H.out 1 rfl HJ.out (by omega) r (by have := HL.out; omega) (by rw [HB.out, HRL.out]; exact hfit)).mono ?_; rintro e w5 ⟨s5, rfl, h, hj5⟩; have H5 := Lib.hid h; have HJ5 := Lib.hid hj5; clear h hj5)))
          go_roundw
          case rel => exact ⟨k + 1, s5, _, L ++ [r], B + t + 16, mm + 1, by omega, by omega, by go_num, by go_num, by go_num, H5.out, HJ5.out, by simp [HL.out], by omega, by rw [lensI_snoc, HB.out, HRL.out]; omega, by omega, by omega⟩
          case measure => simp [intOf]; omega
        · go_wp2_with (first
            | (show wpList _ _ _ (⟨some 57, _, _, _, _, _⟩ :: _) _ _; go_must (refine wpList_string_rd rfl _ _ _ (.tmp 56) rfl Try.underlying43 Try.underlying5 Try.underlying9 rfl HRD.out ?_))
            | (go_at_call 13; go_must (refine (on_append_big H.out 1 rfl HJ.out (by omega) r (by have := HL.out; omega) (by have := HRL.out; omega) (by have := HB.out; omega) (by rw [HB.out, HRL.out]; omega)).mono ?_; rintro e w5 ⟨rfl, h⟩; have H5 := Lib.hid h; clear h)))
          go_roundw
          case rel => exact ⟨k + 1, s, j, L, B, mm, by omega, by omega, by go_num, by go_num, by go_num, H5.out, ⟨HJ.out.calm, HJ.out.opened, HJ.out.good, HJ.out.alive, HJ.out.fit.mono (by omega)⟩, HL.out, by omega, HB.out, by omega, by omega⟩
          case measure => simp [intOf]; omega
      · obtain rfl : k = 6 := by omega
        obtain ⟨hp1, hp2, hp3⟩ := HP.out
        clear hm0
        obtain ⟨hrd, hrl⟩ := text_upto (k := p) H.out 1 rfl (by have := HN.out; omega) ZL.out
        obtain ⟨r, hr⟩ : ∃ r, r = zs.take p := ⟨_, rfl⟩
        rw [← hr] at hrd hrl
        have hpc : (p : Int) ≤ (c1 : Int) := (by have := HZC.out; have := HN.out; omega)
        have HRD := Lib.hid hrd
        have HRL := Lib.hid hrl
        clear hrd hrl hr
        by_cases hfit : B + p + 16 + 256 ≤ 16777216
        · have HLL : Hid ((L ++ [r]).length = mm + 1) := Lib.hid (by simp [HL.out])
          go_wp2_with (first
            | (show wpList _ _ _ (⟨some 83, _, _, _, _, _⟩ :: _) _ _; go_must (refine wpList_string_rd rfl _ _ _ (.tmp 82) rfl Try.underlying43 Try.underlying5 Try.underlying9 rfl HRD.out ?_))
            | (go_at_call 13; go_must (refine (on_append H.out 1 rfl HJ.out (by omega) r (by have := HL.out; omega) (by rw [HB.out, HRL.out]; exact hfit)).mono ?_; rintro e w5 ⟨s5, rfl, h, hj5⟩; have H5 : Hid (Own W w5 [.row bj 61 (jS b (jNext j r)), .disk b s5]) := Lib.hid h.drop1; have HJ5 := Lib.hid hj5; clear h hj5))
            | (go_at_call 17; go_must (refine (own_crash_none H5.out 1 rfl HJ5.out.fit (by omega)).mono ?_; rintro e w6 ⟨c, rfl, h⟩; have H6 : Hid (Own W w6 [.disk c (crashedSt s5 []), .row bj 61 (jS b (jNext j r))]) := Lib.hid (h.erase 2); clear h))
            | (go_at_call 11; show Calls _ _ _ w6 _; go_must (refine (on_open H6.out 0 rfl (HJ5.out.crash []) (by decide)).mono ?_; rintro e w7 ⟨bk, A2, c2, rfl, h⟩; rw [HLL.out] at h ⊢; have H7 : Hid (Own W w7 [.row bj 61 (jS b (jNext j r))]) := Lib.hid h.tail.tail.tail; clear h))
            | (go_at_call 16; go_must (have hc := on_many H7.out HJ5.out; rw [HLL.out] at hc; refine hc.mono ?_; clear hc; rintro e w' ⟨rfl, rfl⟩)))
          go_ret
          exact ⟨rfl, H7.out.upd⟩
        · go_wp2_with (first
            | (show wpList _ _ _ (⟨some 83, _, _, _, _, _⟩ :: _) _ _; go_must (refine wpList_string_rd rfl _ _ _ (.tmp 82) rfl Try.underlying43 Try.underlying5 Try.underlying9 rfl HRD.out ?_))
            | (go_at_call 13; go_must (refine (on_append_big H.out 1 rfl HJ.out (by omega) r (by have := HL.out; omega) (by have := HRL.out; omega) (by have := HB.out; omega) (by rw [HB.out, HRL.out]; omega)).mono ?_; rintro e w5 ⟨rfl, h⟩; have H5 : Hid (Own W w5 [.row bj 61 (jS b j), .disk b s]) := Lib.hid h.drop1; clear h))
            | (go_at_call 17; go_must (refine (own_crash_none H5.out 1 rfl HJ.out.fit (by omega)).mono ?_; rintro e w6 ⟨c, rfl, h⟩; have H6 : Hid (Own W w6 [.disk c (crashedSt s []), .row bj 61 (jS b j)]) := Lib.hid (h.erase 2); clear h))
            | (go_at_call 11; show Calls _ _ _ w6 _; go_must (refine (on_open H6.out 0 rfl (HJ.out.crash []) (by decide)).mono ?_; rintro e w7 ⟨bk, A2, c2, rfl, h⟩; rw [HL.out] at h ⊢; have H7 : Hid (Own W w7 [.row bj 61 (jS b j)]) := Lib.hid h.tail.tail.tail; clear h))
            | (go_at_call 16; go_must (have hc := on_many H7.out HJ.out; rw [HL.out] at hc; refine hc.mono ?_; clear hc; rintro e w' ⟨rfl, rfl⟩)))
          go_ret
          exact ⟨rfl, H7.out.upd⟩
    · obtain rfl : k = n0 := by omega
      obtain ⟨hp1, hp2, hp3⟩ := HP.out
      clear hm0
      obtain ⟨hrd, hrl⟩ := text_upto (k := p) H.out 1 rfl (by have := HN.out; omega) ZL.out
      obtain ⟨r, hr⟩ : ∃ r, r = zs.take p := ⟨_, rfl⟩
      rw [← hr] at hrd hrl
      have hpc : (p : Int) ≤ (c1 : Int) := (by have := HZC.out; have := HN.out; omega)
      have HRD := Lib.hid hrd
      have HRL := Lib.hid hrl
      clear hrd hrl hr
      by_cases hfit : B + p + 16 + 256 ≤ 16777216
      · have HLL : Hid ((L ++ [r]).length = mm + 1) := Lib.hid (by simp [HL.out])
        go_wp2_with (first
          | (show wpList _ _ _ (⟨some 83, _, _, _, _, _⟩ :: _) _ _; go_must (refine wpList_string_rd rfl _ _ _ (.tmp 82) rfl Try.underlying43 Try.underlying5 Try.underlying9 rfl HRD.out ?_))
          | (go_at_call 13; go_must (refine (on_append H.out 1 rfl HJ.out (by omega) r (by have := HL.out; omega) (by rw [HB.out, HRL.out]; exact hfit)).mono ?_; rintro e w5 ⟨s5, rfl, h, hj5⟩; have H5 : Hid (Own W w5 [.row bj 61 (jS b (jNext j r)), .disk b s5]) := Lib.hid h.drop1; have HJ5 := Lib.hid hj5; clear h hj5))
          | (go_at_call 17; go_must (refine (own_crash_none H5.out 1 rfl HJ5.out.fit (by omega)).mono ?_; rintro e w6 ⟨c, rfl, h⟩; have H6 : Hid (Own W w6 [.disk c (crashedSt s5 []), .row bj 61 (jS b (jNext j r))]) := Lib.hid (h.erase 2); clear h))
          | (go_at_call 11; show Calls _ _ _ w6 _; go_must (refine (on_open H6.out 0 rfl (HJ5.out.crash []) (by decide)).mono ?_; rintro e w7 ⟨bk, A2, c2, rfl, h⟩; rw [HLL.out] at h ⊢; have H7 : Hid (Own W w7 [.row bj 61 (jS b (jNext j r))]) := Lib.hid h.tail.tail.tail; clear h))
          | (go_at_call 16; go_must (have hc := on_many H7.out HJ5.out; rw [HLL.out] at hc; refine hc.mono ?_; clear hc; rintro e w' ⟨rfl, rfl⟩)))
        go_ret
        exact ⟨rfl, H7.out.upd⟩
      · go_wp2_with (first
          | (show wpList _ _ _ (⟨some 83, _, _, _, _, _⟩ :: _) _ _; go_must (refine wpList_string_rd rfl _ _ _ (.tmp 82) rfl Try.underlying43 Try.underlying5 Try.underlying9 rfl HRD.out ?_))
          | (go_at_call 13; go_must (refine (on_append_big H.out 1 rfl HJ.out (by omega) r (by have := HL.out; omega) (by have := HRL.out; omega) (by have := HB.out; omega) (by rw [HB.out, HRL.out]; omega)).mono ?_; rintro e w5 ⟨rfl, h⟩; have H5 : Hid (Own W w5 [.row bj 61 (jS b j), .disk b s]) := Lib.hid h.drop1; clear h))
          | (go_at_call 17; go_must (refine (own_crash_none H5.out 1 rfl HJ.out.fit (by omega)).mono ?_; rintro e w6 ⟨c, rfl, h⟩; have H6 : Hid (Own W w6 [.disk c (crashedSt s []), .row bj 61 (jS b j)]) := Lib.hid (h.erase 2); clear h))
          | (go_at_call 11; show Calls _ _ _ w6 _; go_must (refine (on_open H6.out 0 rfl (HJ.out.crash []) (by decide)).mono ?_; rintro e w7 ⟨bk, A2, c2, rfl, h⟩; rw [HL.out] at h ⊢; have H7 : Hid (Own W w7 [.row bj 61 (jS b j)]) := Lib.hid h.tail.tail.tail; clear h))
          | (go_at_call 16; go_must (have hc := on_many H7.out HJ.out; rw [HL.out] at hc; refine hc.mono ?_; clear hc; rintro e w' ⟨rfl, rfl⟩)))
        go_ret
        exact ⟨rfl, H7.out.upd⟩
end Go.Proofs.Ytcbpgmoegfkhnaa
