/- changed rules: Bent (printed by gen-t27.py). -/
import Derived.Test.YtaejnhgnacgheaaT26
import Derived.Test.YtaejnhgnacgheaaT25
import Derived.Test.YtaejnhgnacgheaaTframe2
import Derived.Deep.CutRange
import Derived.Deep.CutBlock
namespace Go.Proofs.Ytaejnhgnacgheaa
set_option linter.unusedVariables false
set_option linter.unusedSimpArgs false
open Go.RowKit

theorem Sl.bare (w : World) (e k g : Nat) (hg : g = w.heap.size) : Sl (w.alloc (.cells #[] e)) (.slice (some ⟨g, 0, none⟩) 0 0) e k 0 [] := by
  subst hg
  exact ⟨by simp, .inr ⟨_, 0, 0, [], rfl, Row.new w e #[], Nat.le_refl _, by unfold maxLen; omega, by simp, by simp⟩⟩
theorem numE_ones (L : List Int) : Ones (L.flatMap numE) := by
  intro u hu
  obtain ⟨x, _, h⟩ := List.mem_flatMap.1 hu
  simp [numE] at h; subst h; rfl
theorem strE_ones (L : List (List UInt8)) : Ones (L.flatMap strE) := by
  intro u hu
  obtain ⟨x, _, h⟩ := List.mem_flatMap.1 hu
  simp [strE] at h; subst h; rfl
theorem tierE_ones (L : List (Int × Int)) : Ones (L.flatMap tierE) := by
  intro u hu
  obtain ⟨x, _, h⟩ := List.mem_flatMap.1 hu
  simp [tierE] at h; rcases h with rfl | rfl <;> rfl
theorem placeE_ones (L : List (List UInt8 × Int)) : Ones (L.flatMap placeE) := by
  intro u hu
  obtain ⟨x, _, h⟩ := List.mem_flatMap.1 hu
  simp [placeE] at h; rcases h with rfl | rfl <;> rfl
theorem quotaE_ones (L : List (List UInt8 × Int × Int)) : Ones (L.flatMap quotaE) := by
  intro u hu
  obtain ⟨x, _, h⟩ := List.mem_flatMap.1 hu
  simp [quotaE] at h; rcases h with rfl | rfl | rfl <;> rfl
section
variable {w W W2 : World} {R D : Nat} {d : DrawL} {vt vp vq vb vt' vp' vq' vb' v : Value} {e k n i : Nat} {xs : List Value}
/-- a list has been copied, and the field is stored -/
theorem clone_pre (h : BtPre w W R D d vt vp vq vb) (hne : R ≠ D) (hD : w.heap.size ≤ D) (ha : Appended (W.alloc (.cells #[] e)) (.slice (some ⟨W.heap.size, 0, none⟩) 0 0) e k n xs v W2) (he : e ≠ 30) (i : Nat) (hd : (dcells d vt vp vq vb).set i v = dcells d vt' vp' vq' vb') :
    BtPre w (W2.setCell ⟨D, i, none⟩ v) R D d vt' vp' vq' vb' ∧ Sl (W2.setCell ⟨D, i, none⟩ v) v e k n xs ∧ (∀ g, v.ownBlock = some g → W.heap.size ≤ g) ∧ Upd (· = D) W (W2.setCell ⟨D, i, none⟩ v) ∧ Row W2 D 30 (dcells d vt vp vq vb) := by
  have h1 := h.far ((Upd.refl _ W).alloc (.cells #[] e))
  have hz : (W.alloc (.cells #[] e)).heap.size = W.heap.size + 1 := by simp
  have hDl := h.row.lt
  have hRl := h.res.lt
  have hu := ha.upd
  have nD : ¬ (Value.slice (some ⟨W.heap.size, 0, none⟩) 0 0).ownBlock = some D := by simp [Value.ownBlock]; omega
  have nR : ¬ (Value.slice (some ⟨W.heap.size, 0, none⟩) 0 0).ownBlock = some R := by simp [Value.ownBlock]; omega
  have r2 := h1.row.upd hu nD
  have hs : Upd (· = D) W2 (W2.setCell ⟨D, i, none⟩ v) := (Upd.refl (· = D) W2).setCell (fun _ => rfl) v
  have hu0 : Upd (· = D) W W2 := Upd.trans ((Upd.refl (· = D) W).alloc _) hu (fun b hb hx => by simp [Value.ownBlock] at hx; omega)
  have hu3 : Upd (· = D) W (W2.setCell ⟨D, i, none⟩ v) := Upd.trans hu0 hs (fun _ _ h => h)
  refine ⟨⟨Upd.trans h.kp hu3 (fun b hb hx => by omega), hd ▸ r2.set i v, h.res.upd hu3 hne⟩, ha.sl.upd hs (fun g hg ex => ?_), ?_, hu3, r2⟩
  · obtain ⟨cs, hr⟩ := ha.sl.row hg
    exact hr.ne_ r2 he ex
  · intro g hg
    rcases ha.at_ with ex | ex
    · rw [ex.1] at hg
      simp [Value.ownBlock] at hg
      omega
    · rw [ex.1] at hg
      cases hg
      omega
theorem own_ge {g : Nat} (h : ∀ b, v.ownBlock = some b → g ≤ b) (hD : D < g) : ∀ b, v.ownBlock = some b → ¬ b = D := fun b hb e => by have := h b hb; omega
end
def nLst : List Int := [-1, 0, 1, 2, 9, 10, 11, 40, 41, 60, 61, 100, 101, 1000, 1001, 1000000, 1000001, 1000000000, 1000000001]
def wLst : List (List UInt8) := [[], [97], [98], [65], [97, 49], [116, 119, 111, 32, 119, 111, 114, 100, 115], [97, 98, 99, 100, 101, 102, 103, 104, 105, 106, 107, 108, 109, 110, 111, 112, 113, 114, 115, 116, 117, 118, 119, 120, 121, 122, 97, 98, 99, 100], [97, 98, 99, 100, 101, 102, 103, 104, 105, 106, 107, 108, 109, 110, 111, 112, 113, 114, 115, 116, 117, 118, 119, 120, 121, 122, 97, 98, 99, 100, 101]]
theorem nLst_get (k : Nat) (hk : k < 19) : ∃ x, (nLst.flatMap numE)[k]? = some (.int .i64 x) ∧ in64 x := by
  rw [numE_flat, List.getElem?_map, List.getElem?_eq_getElem (by simpa [nLst] using hk)]
  refine ⟨_, rfl, ?_⟩
  have : ∀ x ∈ nLst, in64 x := by decide
  exact this _ (List.getElem_mem _)
theorem wLst_get (k : Nat) (hk : k < 8) : ∃ x : List UInt8, (wLst.flatMap strE)[k]? = some (.string ⟨x.toArray⟩) ∧ x.length ≤ 31 := by
  rw [strE_flat, List.getElem?_map, List.getElem?_eq_getElem (by simpa [wLst] using hk)]
  refine ⟨_, rfl, ?_⟩
  have : ∀ x ∈ wLst, x.length ≤ 31 := by decide
  exact this _ (List.getElem_mem _)
theorem mod_nat (x : Int) (m : Nat) (hm : 0 < m) (hm2 : m ≤ 1000000000) (hx : in64 x) : ∃ k : Nat, k < m ∧ ∀ W, Calls Try.prog 20 #[.int .i64 x, .int .i64 m] W (fun e w' => e = .returned (.int .i64 (k : Int)) ∧ W = w') := by
  have hb := modI_bounds x m (by omega)
  refine ⟨(modI x m).toNat, by omega, fun W => ?_⟩
  have h := mod_any W x m (by omega) (by omega) hx
  rw [show ((modI x m).toNat : Int) = modI x m by omega]
  exact h
/-- the same, where blocks may have been added -/
def SizesOk (N : Nat) (d : DrawL) : Prop := DrawOk d ∧ d.tiers.length ≤ N ∧ d.places.length ≤ N ∧ d.quotas.length ≤ N ∧ d.barred.length ≤ N
theorem SizesOk.mono {N M : Nat} {d : DrawL} (h : SizesOk N d) (hm : N ≤ M) : SizesOk M d := ⟨h.1, by have := h.2.1; omega, by have := h.2.2.1; omega, by have := h.2.2.2.1; omega, by have := h.2.2.2.2; omega⟩
theorem sz_set {N : Nat} {d d' : DrawL} (h : SizesOk N d) (ht : d'.tiers = d.tiers) (hp : d'.places = d.places) (hq : d'.quotas = d.quotas) (hb : d'.barred = d.barred) (hn : d'.name.length ≤ maxLen) : SizesOk (N + 60) d' := by
  obtain ⟨h1, h2, h3, h4, h5⟩ := h
  exact ⟨⟨hn, by rw [ht]; exact h1.tiers, by rw [hp]; exact h1.places, by rw [hq]; exact h1.quotas, by rw [hb]; exact h1.barred, by rw [ht]; exact h1.tmatch, by rw [hp]; exact h1.pname, by rw [hq]; exact h1.qname, by rw [hb]; exact h1.bar⟩, by rw [ht]; omega, by rw [hp]; omega, by rw [hq]; omega, by rw [hb]; omega⟩
theorem sz_b {N : Nat} {d : DrawL} (h : SizesOk N d) (hN : N ≤ 100000) {B : List Int} (hl : B.length ≤ N + 60) (ho : ∀ b, b ∈ B → in64 b) : SizesOk (N + 60) { d with barred := B } := by
  obtain ⟨h1, h2, h3, h4, h5⟩ := h
  exact ⟨⟨h1.name, h1.tiers, h1.places, h1.quotas, by show B.length ≤ _; omega, h1.tmatch, h1.pname, h1.qname, ho⟩, by show d.tiers.length ≤ _; omega, by show d.places.length ≤ _; omega, by show d.quotas.length ≤ _; omega, hl⟩
theorem sz_t {N : Nat} {d : DrawL} (h : SizesOk N d) (hN : N ≤ 100000) {B : List (Int × Int)} (hl : B.length ≤ N + 60) (ho : ∀ b, b ∈ B → in64 b.1) : SizesOk (N + 60) { d with tiers := B } := by
  obtain ⟨h1, h2, h3, h4, h5⟩ := h
  exact ⟨⟨h1.name, by show B.length ≤ _; omega, h1.places, h1.quotas, h1.barred, ho, h1.pname, h1.qname, h1.bar⟩, hl, by show d.places.length ≤ _; omega, by show d.quotas.length ≤ _; omega, by show d.barred.length ≤ _; omega⟩
theorem sz_p {N : Nat} {d : DrawL} (h : SizesOk N d) (hN : N ≤ 100000) {B : List (List UInt8 × Int)} (hl : B.length ≤ N + 60) (ho : ∀ b, b ∈ B → okS b.1) : SizesOk (N + 60) { d with places := B } := by
  obtain ⟨h1, h2, h3, h4, h5⟩ := h
  exact ⟨⟨h1.name, h1.tiers, by show B.length ≤ _; omega, h1.quotas, h1.barred, h1.tmatch, ho, h1.qname, h1.bar⟩, by show d.tiers.length ≤ _; omega, hl, by show d.quotas.length ≤ _; omega, by show d.barred.length ≤ _; omega⟩
theorem sz_q {N : Nat} {d : DrawL} (h : SizesOk N d) (hN : N ≤ 100000) {B : List (List UInt8 × Int × Int)} (hl : B.length ≤ N + 60) (ho : ∀ b, b ∈ B → okS b.1) : SizesOk (N + 60) { d with quotas := B } := by
  obtain ⟨h1, h2, h3, h4, h5⟩ := h
  exact ⟨⟨h1.name, h1.tiers, h1.places, by show B.length ≤ _; omega, h1.barred, h1.tmatch, h1.pname, ho, h1.bar⟩, by show d.tiers.length ≤ _; omega, by show d.places.length ≤ _; omega, hl, by show d.barred.length ≤ _; omega⟩
theorem szB {N : Nat} {d : DrawL} (h : SizesOk N d) : d.tiers.length ≤ N ∧ d.places.length ≤ N ∧ d.quotas.length ≤ N ∧ d.barred.length ≤ N := h.2
theorem mem_snoc {α : Type} {p : α → Prop} {L : List α} {x : α} (h : ∀ a, a ∈ L → p a) (hx : p x) : ∀ a, a ∈ L ++ [x] → p a := by
  intro a ha
  rcases List.mem_append.1 ha with h1 | h1
  · exact h a h1
  · rw [List.mem_singleton.1 h1]; exact hx
theorem sz1_t {N i : Nat} {d : DrawL} {x : Int × Int} (h : SizesOk (N + i) d) (hN : N + i ≤ 900000) (hx : in64 x.1) : SizesOk (N + (i + 1)) { d with tiers := d.tiers ++ [x] } := by
  obtain ⟨h1, h2, h3, h4, h5⟩ := h
  exact ⟨⟨h1.name, by show (d.tiers ++ [x]).length ≤ _; simp; omega, h1.places, h1.quotas, h1.barred, mem_snoc h1.tmatch hx, h1.pname, h1.qname, h1.bar⟩, by show (d.tiers ++ [x]).length ≤ _; simp; omega, by show d.places.length ≤ _; omega, by show d.quotas.length ≤ _; omega, by show d.barred.length ≤ _; omega⟩
theorem sz1_p {N i : Nat} {d : DrawL} {x : List UInt8 × Int} (h : SizesOk (N + i) d) (hN : N + i ≤ 900000) (hx : okS x.1) : SizesOk (N + (i + 1)) { d with places := d.places ++ [x] } := by
  obtain ⟨h1, h2, h3, h4, h5⟩ := h
  exact ⟨⟨h1.name, h1.tiers, by show (d.places ++ [x]).length ≤ _; simp; omega, h1.quotas, h1.barred, h1.tmatch, mem_snoc h1.pname hx, h1.qname, h1.bar⟩, by show d.tiers.length ≤ _; omega, by show (d.places ++ [x]).length ≤ _; simp; omega, by show d.quotas.length ≤ _; omega, by show d.barred.length ≤ _; omega⟩
theorem sz1_q {N i : Nat} {d : DrawL} {x : List UInt8 × Int × Int} (h : SizesOk (N + i) d) (hN : N + i ≤ 900000) (hx : okS x.1) : SizesOk (N + (i + 1)) { d with quotas := d.quotas ++ [x] } := by
  obtain ⟨h1, h2, h3, h4, h5⟩ := h
  exact ⟨⟨h1.name, h1.tiers, h1.places, by show (d.quotas ++ [x]).length ≤ _; simp; omega, h1.barred, h1.tmatch, h1.pname, mem_snoc h1.qname hx, h1.bar⟩, by show d.tiers.length ≤ _; omega, by show d.places.length ≤ _; omega, by show (d.quotas ++ [x]).length ≤ _; simp; omega, by show d.barred.length ≤ _; omega⟩
theorem small_ok {l : List UInt8} (h : l.length ≤ 31) : okS l := by unfold okS maxLen; omega
set_option maxHeartbeats 16000000 in
set_option maxRecDepth 20000 in
theorem bent_any (w : World) (d : DrawL) (vt vp vq vb : Value) (h : DrawIn w d vt vp vq vb) (N : Nat) (hN : SizesOk N d) (hN2 : N ≤ 100000) (q0 q1 q2 : Int) (hq0 : in64 q0) (hq1 : in64 q1) (hq2 : in64 q2) :
    Calls Try.prog 12 #[dval d vt vp vq vb, .agg #[.int .i64 q0, .int .i64 q1, .int .i64 q2]] w (BentP (N + 60) w) := by
  obtain ⟨A1, n1, c1, A2, n2, c2, A3, n3, c3, A4, n4, c4, rfl, rfl, rfl, rfl, hn⟩ : ∃ A1 n1 c1 A2 n2 c2 A3 n3 c3 A4 n4 c4, vt = .slice A1 n1 c1 ∧ vp = .slice A2 n2 c2 ∧ vq = .slice A3 n3 c3 ∧ vb = .slice A4 n4 c4 ∧ n1 = d.tiers.length ∧ n2 = d.places.length ∧ n3 = d.quotas.length ∧ n4 = d.barred.length := by
    obtain ⟨A1, c1, e1, _⟩ := h.t
    obtain ⟨A2, c2, e2, _⟩ := h.p
    obtain ⟨A3, c3, e3, _⟩ := h.q
    obtain ⟨A4, c4, e4, h4⟩ := h.b
    exact ⟨_, _, _, _, _, _, _, _, _, _, _, _, e1, e2, e3, e4, rfl, rfl, rfl, rfl⟩
  have HN4 := Lib.hid hn
  have HN := Lib.hid hN
  have HN2 := Lib.hid hN2
  have DI := Lib.hid h
  obtain ⟨m0, hm0, hM0⟩ := mod_nat q0 17 (by decide) (by decide) hq0
  obtain ⟨m1, hm1, hM1⟩ := mod_nat q1 19 (by decide) (by decide) hq1
  obtain ⟨m2, hm2, hM2⟩ := mod_nat q1 8 (by decide) (by decide) hq1
  obtain ⟨m3, hm3, hM3⟩ := mod_nat q1 6 (by decide) (by decide) hq1
  obtain ⟨k3, hk3, hK3⟩ := mod_nat q2 3 (by decide) (by decide) hq2
  obtain ⟨k4, hk4, hK4⟩ := mod_nat q2 4 (by decide) (by decide) hq2
  obtain ⟨k5, hk5, hK5⟩ := mod_nat q2 5 (by decide) (by decide) hq2
  obtain ⟨nv, hnv, hnv64⟩ := nLst_get m1 hm1
  obtain ⟨wv, hwv, hwvl⟩ := wLst_get m2 hm2
  have M0 := Lib.hid hM0; have M1 := Lib.hid hM1; have M2 := Lib.hid hM2; have M3 := Lib.hid hM3
  have K3 := Lib.hid hK3; have K4 := Lib.hid hK4; have K5 := Lib.hid hK5
  have NV := Lib.hid hnv; have NV64 := Lib.hid hnv64; have WV := Lib.hid hwv; have WVL := Lib.hid hwvl
  have LM0 := Lib.hid hm0; have LM1 := Lib.hid hm1; have LM2 := Lib.hid hm2; have LM3 := Lib.hid hm3; have LK3 := Lib.hid hk3; have LK4 := Lib.hid hk4; have LK5 := Lib.hid hk5
  clear hn hN hN2 h hq0 hq1 hq2 hM0 hM1 hM2 hM3 hK3 hK4 hK5 hnv hnv64 hwv hwvl hm0 hm1 hm2 hm3 hk3 hk4 hk5
  go_enter Try.func12, Try.ntmps12
  go_upto_region 1 with fail
  obtain ⟨w0, hw0⟩ : ∃ W, W = ((w.alloc (.cells (dcells d (.slice A1 n1 c1) (.slice A2 n2 c2) (.slice A3 n3 c3) (.slice A4 n4 c4)).toArray 30)).alloc (.cells #[.int .i64 q0, .int .i64 q1, .int .i64 q2] 23)).alloc (.cells zero13.toArray 30) := ⟨_, rfl⟩
  change Code.wp _ _ _ _ (((w.alloc (.cells (dcells d (.slice A1 n1 c1) (.slice A2 n2 c2) (.slice A3 n3 c3) (.slice A4 n4 c4)).toArray 30)).alloc (.cells #[.int .i64 q0, .int .i64 q1, .int .i64 q2] 23)).alloc (.cells zero13.toArray 30))
  rw [← hw0]
  have P0 : Hid (BtPre w w0 (w.heap.size + 2) w.heap.size d (.slice A1 n1 c1) (.slice A2 n2 c2) (.slice A3 n3 c3) (.slice A4 n4 c4)) := Lib.hid (by rw [hw0]; exact ⟨(((Upd.refl _ w).alloc _).alloc _).alloc _, ((Row.new w _ _).upd ((Upd.refl (fun _ => False) _).alloc _) id).upd ((Upd.refl (fun _ => False) _).alloc _) id, Row.new_at _ _ _ _ (by simp)⟩)
  have Q0 : Hid (Row w0 (w.heap.size + 1) 23 [.int .i64 q0, .int .i64 q1, .int .i64 q2]) := Lib.hid (by rw [hw0]; exact (Row.new_at _ _ _ _ (by simp)).upd ((Upd.refl (fun _ => False) _).alloc _) id)
  clear hw0
  have d6 : w0.cell? ⟨w.heap.size, 6, none⟩ = some (.slice A1 n1 c1) := P0.out.row.cell 6
  have hDl := P0.out.row.lt
  have hDn : w.heap.size ≠ w0.heap.size := Nat.ne_of_lt hDl
  have HRD : Hid (Rd (w0.alloc (.cells #[] 63)) (.slice A1 n1 c1) 2 n1 (d.tiers.flatMap tierE)) := Lib.hid (by have h := Lst.rd (k := 2) (enc := tierE) (fun _ => rfl) (DI.out.t.upd (P0.out.kp.trans ((Upd.refl _ w0).alloc (.cells #[] 63)))); have e := HN4.out.1; rw [← e] at h; exact h)
  go_upto_region 2 with (at_builtin; refine wpList_append_sl rfl (.tmp 11) (.tmp 13) _ rfl T_tiers (v := .slice (some ⟨w0.heap.size, 0, none⟩) 0 0) (n := 0) (xs := []) rfl (Sl.bare w0 _ _ _ rfl) (m := n1) (news := d.tiers.flatMap tierE) rfl HRD.out (tierE_ones _) (by have := HN.out.2; have := HN2.out; have := HN4.out; unfold maxLen; omega) (by have := HN.out.2; have := HN2.out; have := HN4.out; omega) ?_; intro v1 u1 hA; rw [Nat.zero_add, List.nil_append] at hA; obtain ⟨X1, y1, rfl, _⟩ := hA.sl.form; have HA1 := Lib.hid (clone_pre (vt' := (.slice X1 n1 y1)) (vp' := (.slice A2 n2 c2)) (vq' := (.slice A3 n3 c3)) (vb' := (.slice A4 n4 c4)) P0.out (by omega) (Nat.le_refl _) hA (by decide) 6 rfl); clear d6; have d6 := HA1.out.2.2.2.2.cell 6; have f6 := HA1.out.2.2.2.2.frozen (j := 6) (by simp [dcells]); clear hA)
  obtain ⟨w1, hw⟩ : ∃ W, W = u1.setCell ⟨w.heap.size, 6, none⟩ (.slice X1 n1 y1) := ⟨_, rfl⟩
  have P1 : Hid (BtPre w w1 (w.heap.size + 2) w.heap.size d (.slice X1 n1 y1) (.slice A2 n2 c2) (.slice A3 n3 c3) (.slice A4 n4 c4)) := Lib.hid (by rw [hw]; exact HA1.out.1)
  have UD1 : Hid (Upd (· = w.heap.size) w0 w1) := Lib.hid (by rw [hw]; exact HA1.out.2.2.2.1)
  have Q1 := Lib.hid (Q0.out.upd UD1.out (by omega))
  have S1_1 : Hid (Sl w1 (.slice X1 n1 y1) 63 2 n1 (d.tiers.flatMap tierE)) := Lib.hid (by rw [hw]; exact HA1.out.2.1)
  have O1 : Hid (∀ g, Value.ownBlock (.slice X1 n1 y1) = some g → w0.heap.size ≤ g) := Lib.hid HA1.out.2.2.1
  rw [← hw]
  clear hw d6 f6 hDl hDn HRD
  have d8 : w1.cell? ⟨w.heap.size, 8, none⟩ = some (.slice A2 n2 c2) := P1.out.row.cell 8
  have hDl := P1.out.row.lt
  have hDn : w.heap.size ≠ w1.heap.size := Nat.ne_of_lt hDl
  have HRD : Hid (Rd (w1.alloc (.cells #[] 65)) (.slice A2 n2 c2) 2 n2 (d.places.flatMap placeE)) := Lib.hid (by have h := Lst.rd (k := 2) (enc := placeE) (fun _ => rfl) (DI.out.p.upd (P1.out.kp.trans ((Upd.refl _ w1).alloc (.cells #[] 65)))); have e := HN4.out.2.1; rw [← e] at h; exact h)
  go_upto_region 3 with (at_builtin; refine wpList_append_sl rfl (.tmp 16) (.tmp 18) _ rfl T_places (v := .slice (some ⟨w1.heap.size, 0, none⟩) 0 0) (n := 0) (xs := []) rfl (Sl.bare w1 _ _ _ rfl) (m := n2) (news := d.places.flatMap placeE) rfl HRD.out (placeE_ones _) (by have := HN.out.2; have := HN2.out; have := HN4.out; unfold maxLen; omega) (by have := HN.out.2; have := HN2.out; have := HN4.out; omega) ?_; intro v2 u2 hA; rw [Nat.zero_add, List.nil_append] at hA; obtain ⟨X2, y2, rfl, _⟩ := hA.sl.form; have HA2 := Lib.hid (clone_pre (vt' := (.slice X1 n1 y1)) (vp' := (.slice X2 n2 y2)) (vq' := (.slice A3 n3 c3)) (vb' := (.slice A4 n4 c4)) P1.out (by omega) (Nat.le_refl _) hA (by decide) 8 rfl); clear d8; have d8 := HA2.out.2.2.2.2.cell 8; have f8 := HA2.out.2.2.2.2.frozen (j := 8) (by simp [dcells]); clear hA)
  obtain ⟨w2, hw⟩ : ∃ W, W = u2.setCell ⟨w.heap.size, 8, none⟩ (.slice X2 n2 y2) := ⟨_, rfl⟩
  have P2 : Hid (BtPre w w2 (w.heap.size + 2) w.heap.size d (.slice X1 n1 y1) (.slice X2 n2 y2) (.slice A3 n3 c3) (.slice A4 n4 c4)) := Lib.hid (by rw [hw]; exact HA2.out.1)
  have UD2 : Hid (Upd (· = w.heap.size) w1 w2) := Lib.hid (by rw [hw]; exact HA2.out.2.2.2.1)
  have Q2 := Lib.hid (Q1.out.upd UD2.out (by omega))
  have S2_2 : Hid (Sl w2 (.slice X2 n2 y2) 65 2 n2 (d.places.flatMap placeE)) := Lib.hid (by rw [hw]; exact HA2.out.2.1)
  have O2 : Hid (∀ g, Value.ownBlock (.slice X2 n2 y2) = some g → w1.heap.size ≤ g) := Lib.hid HA2.out.2.2.1
  have S1_2 := Lib.hid (S1_1.out.upd UD2.out (own_ge O1.out P0.out.row.lt))
  rw [← hw]
  clear hw d8 f8 hDl hDn HRD
  have d11 : w2.cell? ⟨w.heap.size, 11, none⟩ = some (.slice A3 n3 c3) := P2.out.row.cell 11
  have hDl := P2.out.row.lt
  have hDn : w.heap.size ≠ w2.heap.size := Nat.ne_of_lt hDl
  have HRD : Hid (Rd (w2.alloc (.cells #[] 67)) (.slice A3 n3 c3) 3 n3 (d.quotas.flatMap quotaE)) := Lib.hid (by have h := Lst.rd (k := 3) (enc := quotaE) (fun _ => rfl) (DI.out.q.upd (P2.out.kp.trans ((Upd.refl _ w2).alloc (.cells #[] 67)))); have e := HN4.out.2.2.1; rw [← e] at h; exact h)
  go_upto_region 4 with (at_builtin; refine wpList_append_sl rfl (.tmp 21) (.tmp 23) _ rfl T_quotas (v := .slice (some ⟨w2.heap.size, 0, none⟩) 0 0) (n := 0) (xs := []) rfl (Sl.bare w2 _ _ _ rfl) (m := n3) (news := d.quotas.flatMap quotaE) rfl HRD.out (quotaE_ones _) (by have := HN.out.2; have := HN2.out; have := HN4.out; unfold maxLen; omega) (by have := HN.out.2; have := HN2.out; have := HN4.out; omega) ?_; intro v3 u3 hA; rw [Nat.zero_add, List.nil_append] at hA; obtain ⟨X3, y3, rfl, _⟩ := hA.sl.form; have HA3 := Lib.hid (clone_pre (vt' := (.slice X1 n1 y1)) (vp' := (.slice X2 n2 y2)) (vq' := (.slice X3 n3 y3)) (vb' := (.slice A4 n4 c4)) P2.out (by omega) (Nat.le_refl _) hA (by decide) 11 rfl); clear d11; have d11 := HA3.out.2.2.2.2.cell 11; have f11 := HA3.out.2.2.2.2.frozen (j := 11) (by simp [dcells]); clear hA)
  obtain ⟨w3, hw⟩ : ∃ W, W = u3.setCell ⟨w.heap.size, 11, none⟩ (.slice X3 n3 y3) := ⟨_, rfl⟩
  have P3 : Hid (BtPre w w3 (w.heap.size + 2) w.heap.size d (.slice X1 n1 y1) (.slice X2 n2 y2) (.slice X3 n3 y3) (.slice A4 n4 c4)) := Lib.hid (by rw [hw]; exact HA3.out.1)
  have UD3 : Hid (Upd (· = w.heap.size) w2 w3) := Lib.hid (by rw [hw]; exact HA3.out.2.2.2.1)
  have Q3 := Lib.hid (Q2.out.upd UD3.out (by omega))
  have S3_3 : Hid (Sl w3 (.slice X3 n3 y3) 67 3 n3 (d.quotas.flatMap quotaE)) := Lib.hid (by rw [hw]; exact HA3.out.2.1)
  have O3 : Hid (∀ g, Value.ownBlock (.slice X3 n3 y3) = some g → w2.heap.size ≤ g) := Lib.hid HA3.out.2.2.1
  have S1_3 := Lib.hid (S1_2.out.upd UD3.out (own_ge O1.out P0.out.row.lt))
  have S2_3 := Lib.hid (S2_2.out.upd UD3.out (own_ge O2.out P1.out.row.lt))
  rw [← hw]
  clear hw d11 f11 hDl hDn HRD
  have d12 : w3.cell? ⟨w.heap.size, 12, none⟩ = some (.slice A4 n4 c4) := P3.out.row.cell 12
  have hDl := P3.out.row.lt
  have hDn : w.heap.size ≠ w3.heap.size := Nat.ne_of_lt hDl
  have HRD : Hid (Rd (w3.alloc (.cells #[] 3)) (.slice A4 n4 c4) 1 n4 (d.barred.flatMap numE)) := Lib.hid (by have h := Lst.rd (k := 1) (enc := numE) (fun _ => rfl) (DI.out.b.upd (P3.out.kp.trans ((Upd.refl _ w3).alloc (.cells #[] 3)))); have e := HN4.out.2.2.2; rw [← e] at h; exact h)
  go_upto_region 5 with (at_builtin; refine wpList_append_sl rfl (.tmp 26) (.tmp 28) _ rfl T_ints (v := .slice (some ⟨w3.heap.size, 0, none⟩) 0 0) (n := 0) (xs := []) rfl (Sl.bare w3 _ _ _ rfl) (m := n4) (news := d.barred.flatMap numE) rfl HRD.out (numE_ones _) (by have := HN.out.2; have := HN2.out; have := HN4.out; unfold maxLen; omega) (by have := HN.out.2; have := HN2.out; have := HN4.out; omega) ?_; intro v4 u4 hA; rw [Nat.zero_add, List.nil_append] at hA; obtain ⟨X4, y4, rfl, _⟩ := hA.sl.form; have HA4 := Lib.hid (clone_pre (vt' := (.slice X1 n1 y1)) (vp' := (.slice X2 n2 y2)) (vq' := (.slice X3 n3 y3)) (vb' := (.slice X4 n4 y4)) P3.out (by omega) (Nat.le_refl _) hA (by decide) 12 rfl); clear d12; have d12 := HA4.out.2.2.2.2.cell 12; have f12 := HA4.out.2.2.2.2.frozen (j := 12) (by simp [dcells]); clear hA)
  obtain ⟨w4, hw⟩ : ∃ W, W = u4.setCell ⟨w.heap.size, 12, none⟩ (.slice X4 n4 y4) := ⟨_, rfl⟩
  have P4 : Hid (BtPre w w4 (w.heap.size + 2) w.heap.size d (.slice X1 n1 y1) (.slice X2 n2 y2) (.slice X3 n3 y3) (.slice X4 n4 y4)) := Lib.hid (by rw [hw]; exact HA4.out.1)
  have UD4 : Hid (Upd (· = w.heap.size) w3 w4) := Lib.hid (by rw [hw]; exact HA4.out.2.2.2.1)
  have Q4 := Lib.hid (Q3.out.upd UD4.out (by omega))
  have S4_4 : Hid (Sl w4 (.slice X4 n4 y4) 3 1 n4 (d.barred.flatMap numE)) := Lib.hid (by rw [hw]; exact HA4.out.2.1)
  have O4 : Hid (∀ g, Value.ownBlock (.slice X4 n4 y4) = some g → w3.heap.size ≤ g) := Lib.hid HA4.out.2.2.1
  have S1_4 := Lib.hid (S1_3.out.upd UD4.out (own_ge O1.out P0.out.row.lt))
  have S2_4 := Lib.hid (S2_3.out.upd UD4.out (own_ge O2.out P1.out.row.lt))
  have S3_4 := Lib.hid (S3_3.out.upd UD4.out (own_ge O3.out P2.out.row.lt))
  rw [← hw]
  clear hw d12 f12 hDl hDn HRD
  have B4 : Hid (BtAt w w4 (w.heap.size + 2) w.heap.size d (.slice X1 n1 y1) (.slice X2 n2 y2) (.slice X3 n3 y3) (.slice X4 n4 y4)) := Lib.hid (by
    have h0 := P0.out.kp.size
    have z1 := Nat.le_trans h0 UD1.out.size
    have z2 := Nat.le_trans z1 UD2.out.size
    have z3 := Nat.le_trans z2 UD3.out.size
    obtain ⟨e1, e2, e3, e4⟩ := HN4.out
    refine ⟨P4.out.kp, P4.out.row, P4.out.res, by omega, by omega, Nat.le_refl _, ?_, ?_, ?_, ?_, fun g hg => Nat.le_trans h0 (O1.out g hg), fun g hg => Nat.le_trans z1 (O2.out g hg), fun g hg => Nat.le_trans z2 (O3.out g hg), fun g hg => Nat.le_trans z3 (O4.out g hg)⟩
    · have h := S1_4.out; rw [e1] at h ⊢; exact h
    · have h := S2_4.out; rw [e2] at h ⊢; exact h
    · have h := S3_4.out; rw [e3] at h ⊢; exact h
    · have h := S4_4.out; rw [e4] at h ⊢; exact h)
  clear P0 P1 P2 P3 P4 Q0 Q1 Q2 Q3 UD1 UD2 UD3 UD4 S1_1 S1_2 S1_3 S1_4 S2_2 S2_3 S2_4 S3_3 S3_4 S4_4 O1 O2 O3 O4 HA1 HA2 HA3 HA4
  have dq : w4.cell? ⟨w.heap.size + 1, 1, none⟩ = some (.int .i64 q1) := Q4.out.cell 1
  have hQl := Q4.out.lt
  have hQn : w.heap.size + 1 ≠ w4.heap.size := Nat.ne_of_lt hQl
  have hm1 : (m1 : Int) < 19 := by have := LM1.out; omega
  have hm1n : m1 < 19 := LM1.out
  go_upto_region 6 with (go_at_call 20; refine (M1.out _).mono ?_; rintro en w5 ⟨rfl, hw⟩; have KP5 : Hid (Kp w4 w5) := Lib.hid (by rw [← hw]; exact (Upd.refl _ w4).alloc _); have cN : w5.cell? ⟨w4.heap.size, m1, none⟩ = some (.int .i64 nv) := (by rw [← hw]; exact ((Row.new w4 _ _).cell m1).trans NV.out); clear hw)
  clear dq hQl hQn hm1 hm1n cN
  have Q5 := Lib.hid (Q4.out.upd KP5.out id)
  have B5 := Lib.hid (B4.out.far KP5.out)
  have dq : w5.cell? ⟨w.heap.size + 1, 2, none⟩ = some (.int .i64 q2) := Q5.out.cell 2
  go_upto_region 7 with fail
  clear dq
  have dq : w5.cell? ⟨w.heap.size + 1, 1, none⟩ = some (.int .i64 q1) := Q5.out.cell 1
  have hQl := Q5.out.lt
  have hQn : w.heap.size + 1 ≠ w5.heap.size := Nat.ne_of_lt hQl
  have hm1 : (m2 : Int) < 8 := by have := LM2.out; omega
  have hm1n : m2 < 8 := LM2.out
  go_upto_region 8 with (go_at_call 20; refine (M2.out _).mono ?_; rintro en w6 ⟨rfl, hw⟩; have KP6 : Hid (Kp w5 w6) := Lib.hid (by rw [← hw]; exact (Upd.refl _ w5).alloc _); have cN : w6.cell? ⟨w5.heap.size, m2, none⟩ = some (.string ⟨wv.toArray⟩) := (by rw [← hw]; exact ((Row.new w5 _ _).cell m2).trans WV.out); clear hw)
  clear dq hQl hQn hm1 hm1n cN
  have Q6 := Lib.hid (Q5.out.upd KP6.out id)
  have B6 := Lib.hid (B5.out.far KP6.out)
  have dq : w6.cell? ⟨w.heap.size + 1, 0, none⟩ = some (.int .i64 q0) := Q6.out.cell 0
  go_upto_block 0 with (go_at_call 20; refine (M0.out _).mono ?_; rintro en wX ⟨rfl, rfl⟩)
  clear dq Q4 Q5 B4 B5
  
  go_cut [] from 48 to 206 (fun wx => BtI w wx (w.heap.size + 2) w.heap.size (N + 60))
  case first =>
    have hc : m0 = 0 ∨ m0 = 1 ∨ m0 = 2 ∨ m0 = 3 ∨ m0 = 4 ∨ m0 = 5 ∨ m0 = 6 ∨ m0 = 7 ∨ m0 = 8 ∨ m0 = 9 ∨ m0 = 10 ∨ m0 = 11 ∨ m0 = 12 ∨ m0 = 13 ∨ m0 = 14 ∨ m0 = 15 ∨ m0 = 16 := by have := LM0.out; omega
    have hDl := B6.out.row.lt
    have hDn : w.heap.size ≠ w6.heap.size := Nat.ne_of_lt hDl
    rcases hc with rfl | rfl | rfl | rfl | rfl | rfl | rfl | rfl | rfl | rfl | rfl | rfl | rfl | rfl | rfl | rfl | rfl
    · have d0 := B6.out.row.cell 0
      have f0 := B6.out.row.frozen (j := 0) (by simp [dcells])
      go_wp2_with fail
      go_meet
      exact ⟨_, _, _, _, _, B6.out.set 0 (.string ⟨wv.toArray⟩) (d' := { d with name := wv }) rfl rfl rfl rfl rfl, sz_set HN.out rfl rfl rfl rfl (small_ok WVL.out)⟩
    · have dq : w6.cell? ⟨w.heap.size + 1, 1, none⟩ = some (.int .i64 q1) := Q6.out.cell 1
      have hm3 : (m3 : Int) < 6 := by have := LM3.out; omega
      have d1 := B6.out.row.cell 1
      have f1 := B6.out.row.frozen (j := 1) (by simp [dcells])
      go_wp2_with (go_at_call 20; refine (M3.out _).mono ?_; rintro en wX ⟨rfl, rfl⟩)
      go_meet
      exact ⟨_, _, _, _, _, B6.out.set 1 (.int .i64 ((m3 : Int) - 1)) (d' := { d with kind := (m3 : Int) - 1 }) rfl rfl rfl rfl rfl, sz_set HN.out rfl rfl rfl rfl HN.out.1.name⟩
    · have d2 := B6.out.row.cell 2
      have f2 := B6.out.row.frozen (j := 2) (by simp [dcells])
      go_wp2_with fail
      go_meet
      exact ⟨_, _, _, _, _, B6.out.set 2 (.int .i64 nv) (d' := { d with round := nv }) rfl rfl rfl rfl rfl, sz_set HN.out rfl rfl rfl rfl HN.out.1.name⟩
    · have d3 := B6.out.row.cell 3
      have f3 := B6.out.row.frozen (j := 3) (by simp [dcells])
      go_wp2_with fail
      go_meet
      exact ⟨_, _, _, _, _, B6.out.set 3 (.int .i64 nv) (d' := { d with price := nv }) rfl rfl rfl rfl rfl, sz_set HN.out rfl rfl rfl rfl HN.out.1.name⟩
    · have d4 := B6.out.row.cell 4
      have f4 := B6.out.row.frozen (j := 4) (by simp [dcells])
      go_wp2_with fail
      go_meet
      exact ⟨_, _, _, _, _, B6.out.set 4 (.int .i64 nv) (d' := { d with pool := nv }) rfl rfl rfl rfl rfl, sz_set HN.out rfl rfl rfl rfl HN.out.1.name⟩
    · have d5 := B6.out.row.cell 5
      have f5 := B6.out.row.frozen (j := 5) (by simp [dcells])
      go_wp2_with fail
      go_meet
      exact ⟨_, _, _, _, _, B6.out.set 5 (.int .i64 nv) (d' := { d with pick := nv }) rfl rfl rfl rfl rfl, sz_set HN.out rfl rfl rfl rfl HN.out.1.name⟩
    · have d7 := B6.out.row.cell 7
      have f7 := B6.out.row.frozen (j := 7) (by simp [dcells])
      go_wp2_with fail
      go_meet
      exact ⟨_, _, _, _, _, B6.out.set 7 (.bool true) (d' := { d with roll := true }) rfl rfl rfl rfl rfl, sz_set HN.out rfl rfl rfl rfl HN.out.1.name⟩
    · have d9 := B6.out.row.cell 9
      have f9 := B6.out.row.frozen (j := 9) (by simp [dcells])
      go_wp2_with fail
      go_meet
      exact ⟨_, _, _, _, _, B6.out.set 9 (.int .i64 nv) (d' := { d with cls := nv }) rfl rfl rfl rfl rfl, sz_set HN.out rfl rfl rfl rfl HN.out.1.name⟩
    · have d10 := B6.out.row.cell 10
      have f10 := B6.out.row.frozen (j := 10) (by simp [dcells])
      go_wp2_with fail
      go_meet
      exact ⟨_, _, _, _, _, B6.out.set 10 (.int .i64 nv) (d' := { d with size := nv }) rfl rfl rfl rfl rfl, sz_set HN.out rfl rfl rfl rfl HN.out.1.name⟩
    · have d12 : w6.cell? ⟨w.heap.size, 12, none⟩ = some (.slice X4 n4 y4) := B6.out.row.cell 12
      go_wp2_with (at_builtin; refine wpList_append_sl rfl (.tmp 89) (.tmp 91) _ rfl T_ints (v := (.slice X4 n4 y4)) rfl (B6.out.far ((Upd.refl _ w6).alloc _)).b (m := 1) (news := [.int .i64 nv]) rfl (Rd.of_new (cs := #[.int .i64 nv]) (Row.new_at _ _ _ _ rfl) rfl) (by intro u hu; simp at hu; subst hu; rfl) (by have := HN.out.2; have := HN2.out; unfold maxLen; omega) (by have := HN.out.2; have := HN2.out; omega) ?_; intro v9 w9 hA; obtain ⟨A9, c9, rfl, _⟩ := hA.sl.form; have HH := BtAt.addB (xs := [nv]) B6.out ((Upd.refl _ w6).alloc _) rfl rfl hA; have B9 := Lib.hid HH.2; clear d12; have d12 := HH.1.cell 12; have f12 := HH.1.frozen (j := 12) (by simp [dcells]); clear hA HH)
      go_meet
      exact ⟨_, _, _, _, _, B9.out, sz_b HN.out HN2.out (by have := HN.out.2; simp; omega) (mem_snoc HN.out.1.bar NV64.out)⟩
    · have hk3 : (k3 : Int) < 3 := by have := LK3.out; omega
      go_wp2_with fail
      go_loopw [8] (fun v wr => ∃ (i : Nat) (B : List Int) (vb : Value), v = .int .i64 i ∧ i ≤ 39 + k3 ∧ BtAt w wr (w.heap.size + 2) w.heap.size (setB d B) (.slice X1 n1 y1) (.slice X2 n2 y2) (.slice X3 n3 y3) vb ∧ (B.length ≤ N + i ∧ ∀ b, b ∈ B → in64 b)) (fun v _ => 60 - (intOf v).toNat)
      case atStart => exact ⟨0, d.barred, (.slice X4 n4 y4), rfl, by omega, B6.out, HN.out.2.2.2.2, HN.out.1.bar⟩
      case round =>
        obtain ⟨i, B, vb, rfl, hi, hm, hB⟩ := hrel
        have MR := Lib.hid hm
        have HB := Lib.hid hB
        clear hm hB
        have hk3n : k3 < 3 := LK3.out
        have hi0 : (0 : Int) ≤ i := by omega
        have hi9 : (i : Int) ≤ 41 := by omega
        by_cases hlt : i < 39 + k3
        · have hlti : (i : Int) < 39 + (k3 : Int) := by omega
          obtain ⟨A5, i5, c5, e5⟩ : ∃ A n c, vb = .slice A n c := by obtain ⟨A, c, e, _⟩ := MR.out.b.form; exact ⟨_, _, _, e⟩
          subst e5
          have d12 : wr.cell? ⟨w.heap.size, 12, none⟩ = some (.slice A5 i5 c5) := MR.out.row.cell 12
          have hDl := MR.out.row.lt
          have hDn : w.heap.size ≠ wr.heap.size := Nat.ne_of_lt hDl
          go_wp2_with (first
            | (go_at_call 20; refine (K3.out _).mono ?_; rintro en wX ⟨rfl, rfl⟩)
            | (at_builtin; refine wpList_append_sl rfl (.tmp 104) (.tmp 107) _ rfl T_ints (v := (.slice A5 i5 c5)) rfl (MR.out.far ((Upd.refl _ wr).alloc _)).b (m := 1) (news := [.int .i64 (1000 + (i : Int))]) rfl (Rd.of_new (cs := #[.int .i64 (1000 + (i : Int))]) (Row.new_at _ _ _ _ rfl) rfl) (by intro u hu; simp at hu; subst hu; rfl) (by have := HB.out.1; have := HN2.out; show B.length + 1 ≤ maxLen; unfold maxLen; omega) (by have := HB.out.1; have := HN2.out; show (B.length + 1) * 8 ≤ _; omega) ?_; intro v9 w9 hA; obtain ⟨A9, c9, rfl, _⟩ := hA.sl.form; have HH := BtAt.addB (xs := [1000 + (i : Int)]) MR.out ((Upd.refl _ wr).alloc _) rfl rfl hA; have B9 := Lib.hid HH.2; clear d12; have d12 := HH.1.cell 12; have f12 := HH.1.frozen (j := 12) (by simp [dcells]); clear hA HH))
          go_roundw
          all_goals (first
            | exact ⟨i + 1, B ++ [1000 + (i : Int)], _, by go_num, by omega, B9.out, by have := HB.out.1; simp; omega, mem_snoc HB.out.2 (in64_small (by omega) (by omega))⟩
            | ((repeat apply Exists.intro); exact ⟨⟨i + 1, B ++ [1000 + (i : Int)], _, by go_num, by omega, B9.out, by have := HB.out.1; simp; omega, mem_snoc HB.out.2 (in64_small (by omega) (by omega))⟩, rfl⟩)
            | (simp [intOf]; omega))
        · have hlti : ¬ (i : Int) < 39 + (k3 : Int) := by omega
          go_wp2_with (go_at_call 20; refine (K3.out _).mono ?_; rintro en wX ⟨rfl, rfl⟩)
          go_meet
          exact ⟨_, _, _, _, _, MR.out, sz_b HN.out HN2.out (by have := HB.out.1; omega) HB.out.2⟩
    · have d6 : w6.cell? ⟨w.heap.size, 6, none⟩ = some (.slice X1 n1 y1) := B6.out.row.cell 6
      go_wp2_with fail
      go_region_law ((first
        | (refine step_of rfl (wp_append_sl (.tmp 113) (.tmp 118) _ rfl T_tiers (v := (.slice X1 n1 y1)) rfl (B6.out.far (((Upd.refl _ w6).drew).alloc _)).t (m := 1) (news := [.int .i64 (k5 : Int), .int .i64 nv]) rfl (Rd.of_new (cs := #[.int .i64 (k5 : Int), .int .i64 nv]) (Row.new_at _ _ _ _ rfl) rfl) (by intro u hu; simp at hu; rcases hu with rfl | rfl <;> rfl) (by have := HN.out.2; have := HN2.out; unfold maxLen; omega) (by have := HN.out.2; have := HN2.out; omega) ?_); intro v9 w9 hA; obtain ⟨A9, c9, rfl, _⟩ := hA.sl.form; have HH := BtAt.addT (xs := [((k5 : Int), nv)]) B6.out (((Upd.refl _ w6).drew).alloc _) rfl rfl hA; have B9 := Lib.hid HH.2; clear d6; have d6 := HH.1.cell 6; have f6 := HH.1.frozen (j := 6) (by simp [dcells]); clear hA HH)
        | (go_simp; go_at_call 20; refine (K5.out _).mono ?_; rintro en wX ⟨rfl, rfl⟩)))
      all_goals (go_wp2_with fail; go_meet)
      all_goals exact ⟨_, _, _, _, _, B9.out, sz_t HN.out HN2.out (by have := HN.out.2; simp; omega) (mem_snoc HN.out.1.tmatch (in64_small (by have := LK5.out; omega) (by have := LK5.out; omega)))⟩
    · have d8 : w6.cell? ⟨w.heap.size, 8, none⟩ = some (.slice X2 n2 y2) := B6.out.row.cell 8
      go_wp2_with fail
      go_region_law ((first
        | (refine step_of rfl (wp_append_sl (.tmp 124) (.tmp 130) _ rfl T_places (v := (.slice X2 n2 y2)) rfl (B6.out.far (((Upd.refl _ w6).drew).alloc _)).p (m := 1) (news := [.string ⟨wv.toArray⟩, .int .i64 (IntKind.i64.wrap (1 + (k3 : Int)))]) rfl (Rd.of_new (cs := #[.string ⟨wv.toArray⟩, .int .i64 (IntKind.i64.wrap (1 + (k3 : Int)))]) (Row.new_at _ _ _ _ rfl) rfl) (by intro u hu; simp at hu; rcases hu with rfl | rfl <;> rfl) (by have := HN.out.2; have := HN2.out; unfold maxLen; omega) (by have := HN.out.2; have := HN2.out; omega) ?_); intro v9 w9 hA; obtain ⟨A9, c9, rfl, _⟩ := hA.sl.form; have HH := BtAt.addP (xs := [(wv, IntKind.i64.wrap (1 + (k3 : Int)))]) B6.out (((Upd.refl _ w6).drew).alloc _) rfl rfl hA; have B9 := Lib.hid HH.2; clear d8; have d8 := HH.1.cell 8; have f8 := HH.1.frozen (j := 8) (by simp [dcells]); clear hA HH)
        | (go_simp; go_at_call 20; refine (K3.out _).mono ?_; rintro en wX ⟨rfl, rfl⟩)))
      all_goals (go_wp2_with fail; go_meet)
      all_goals exact ⟨_, _, _, _, _, B9.out, sz_p HN.out HN2.out (by have := HN.out.2; simp; omega) (mem_snoc HN.out.1.pname (small_ok WVL.out))⟩
    · have d8 : w6.cell? ⟨w.heap.size, 8, none⟩ = some (.slice X2 n2 y2) := B6.out.row.cell 8
      go_wp2_with (at_builtin; refine wpList_append_sl rfl (.tmp 136) (.tmp 139) _ rfl T_places (v := (.slice X2 n2 y2)) rfl (B6.out.far ((Upd.refl _ w6).alloc _)).p (m := 1) (news := [.string ⟨#[122]⟩, .int .i64 nv]) rfl (Rd.of_new (cs := #[.string ⟨#[122]⟩, .int .i64 nv]) (Row.new_at _ _ _ _ rfl) rfl) (by intro u hu; simp at hu; rcases hu with rfl | rfl <;> rfl) (by have := HN.out.2; have := HN2.out; unfold maxLen; omega) (by have := HN.out.2; have := HN2.out; omega) ?_; intro v9 w9 hA; obtain ⟨A9, c9, rfl, _⟩ := hA.sl.form; have HH := BtAt.addP (xs := [([122], nv)]) B6.out ((Upd.refl _ w6).alloc _) rfl rfl hA; have B9 := Lib.hid HH.2; clear d8; have d8 := HH.1.cell 8; have f8 := HH.1.frozen (j := 8) (by simp [dcells]); clear hA HH)
      go_meet
      exact ⟨_, _, _, _, _, B9.out, sz_p HN.out HN2.out (by have := HN.out.2; simp; omega) (mem_snoc HN.out.1.pname (show okS [122] from small_ok (by decide)))⟩
    · have d11 : w6.cell? ⟨w.heap.size, 11, none⟩ = some (.slice X3 n3 y3) := B6.out.row.cell 11
      go_wp2_with fail
      go_region_law ((first
        | (refine step_of rfl (wp_append_sl (.tmp 145) (.tmp 150) _ rfl T_quotas (v := (.slice X3 n3 y3)) rfl (B6.out.far (((Upd.refl _ w6).drew).alloc _)).q (m := 1) (news := [.string ⟨wv.toArray⟩, .int .i64 0, .int .i64 (k3 : Int)]) rfl (Rd.of_new (cs := #[.string ⟨wv.toArray⟩, .int .i64 0, .int .i64 (k3 : Int)]) (Row.new_at _ _ _ _ rfl) rfl) (by intro u hu; simp at hu; rcases hu with rfl | rfl | rfl <;> rfl) (by have := HN.out.2; have := HN2.out; unfold maxLen; omega) (by have := HN.out.2; have := HN2.out; omega) ?_); intro v9 w9 hA; obtain ⟨A9, c9, rfl, _⟩ := hA.sl.form; have HH := BtAt.addQ (xs := [(wv, 0, (k3 : Int))]) B6.out (((Upd.refl _ w6).drew).alloc _) rfl rfl hA; have B9 := Lib.hid HH.2; clear d11; have d11 := HH.1.cell 11; have f11 := HH.1.frozen (j := 11) (by simp [dcells]); clear hA HH)
        | (go_simp; go_at_call 20; refine (K3.out _).mono ?_; rintro en wX ⟨rfl, rfl⟩)))
      all_goals (go_wp2_with fail; go_meet)
      all_goals exact ⟨_, _, _, _, _, B9.out, sz_q HN.out HN2.out (by have := HN.out.2; simp; omega) (mem_snoc HN.out.1.qname (small_ok WVL.out))⟩
    · have d11 : w6.cell? ⟨w.heap.size, 11, none⟩ = some (.slice X3 n3 y3) := B6.out.row.cell 11
      go_wp2_with fail
      go_region_law ((first
        | (refine step_of rfl (wp_append_sl (.tmp 156) (.tmp 161) _ rfl T_quotas (v := (.slice X3 n3 y3)) rfl (B6.out.far (((Upd.refl _ w6).drew).alloc _)).q (m := 1) (news := [.string ⟨#[122]⟩, .int .i64 (k3 : Int), .int .i64 nv]) rfl (Rd.of_new (cs := #[.string ⟨#[122]⟩, .int .i64 (k3 : Int), .int .i64 nv]) (Row.new_at _ _ _ _ rfl) rfl) (by intro u hu; simp at hu; rcases hu with rfl | rfl | rfl <;> rfl) (by have := HN.out.2; have := HN2.out; unfold maxLen; omega) (by have := HN.out.2; have := HN2.out; omega) ?_); intro v9 w9 hA; obtain ⟨A9, c9, rfl, _⟩ := hA.sl.form; have HH := BtAt.addQ (xs := [([122], (k3 : Int), nv)]) B6.out (((Upd.refl _ w6).drew).alloc _) rfl rfl hA; have B9 := Lib.hid HH.2; clear d11; have d11 := HH.1.cell 11; have f11 := HH.1.frozen (j := 11) (by simp [dcells]); clear hA HH)
        | (go_simp; go_at_call 20; refine (K3.out _).mono ?_; rintro en wX ⟨rfl, rfl⟩)))
      all_goals (go_wp2_with fail; go_meet)
      all_goals exact ⟨_, _, _, _, _, B9.out, sz_q HN.out HN2.out (by have := HN.out.2; simp; omega) (mem_snoc HN.out.1.qname (show okS [122] from small_ok (by decide)))⟩
    · have hk4 : (k4 : Int) < 4 := by have := LK4.out; omega
      go_wp2_with fail
      go_loopw [9] (fun v wr => ∃ (i : Nat), v = .int .i64 i ∧ i ≤ 10 + k4 ∧ ∃ (d : DrawL) (vt vp vq vb : Value), BtAt w wr (w.heap.size + 2) w.heap.size d vt vp vq vb ∧ SizesOk (N + i) d) (fun v _ => 60 - (intOf v).toNat)
      case atStart => exact ⟨0, rfl, by omega, _, _, _, _, _, B6.out, HN.out⟩
      case round =>
        obtain ⟨i, rfl, hi, d', vt, vp, vq, vb, hm, hS⟩ := hrel
        have MR := Lib.hid hm
        have HS := Lib.hid hS
        clear hm hS
        have hk4n : k4 < 4 := LK4.out
        have hi0 : (0 : Int) ≤ i := by omega
        have hi9 : (i : Int) ≤ 13 := by omega
        have HI : Hid (i ≤ 13) := Lib.hid (by omega)
        obtain ⟨Zt, zt, bt, et⟩ : ∃ A n c, vt = .slice A n c := by obtain ⟨A, c, e, _⟩ := MR.out.t.form; exact ⟨_, _, _, e⟩
        obtain ⟨Zp, zp, bp, ep⟩ : ∃ A n c, vp = .slice A n c := by obtain ⟨A, c, e, _⟩ := MR.out.p.form; exact ⟨_, _, _, e⟩
        obtain ⟨Zq, zq, bq, eq⟩ : ∃ A n c, vq = .slice A n c := by obtain ⟨A, c, e, _⟩ := MR.out.q.form; exact ⟨_, _, _, e⟩
        subst et ep eq
        by_cases hlt : i < 10 + k4
        · have hlti : (i : Int) < 10 + (k4 : Int) := by omega
          obtain ⟨bI, hbI⟩ : ∃ b : UInt8, (b.toNat : Int) = 97 + (i : Int) := ⟨UInt8.ofNat (97 + i), by rw [UInt8.toNat_ofNat']; omega⟩
          have hwrap : IntKind.u8.wrap (97 + (i : Int)) = (bI.toNat : Int) := by rw [hbI]; apply IntWalk.u8_in <;> omega
          have HBI := Lib.hid hbI
          clear hbI
          go_upto_region 49 with (first
            | (go_at_call 20; refine (K4.out _).mono ?_; rintro en wX ⟨rfl, rfl⟩)
            | (show wpList _ _ _ (⟨some 177, _, _, _, _, _⟩ :: _) _ _; refine wpList_string_rd rfl 75 9 5 (.tmp 176) rfl Try.underlying75 Try.underlying5 Try.underlying9 (y := .slice (some ⟨wr.heap.size, 0, none⟩) 1 1) (n := 1) (bs := [bI]) rfl (Rd.of_new (cs := #[.int .u8 bI.toNat]) (Row.new_at _ _ _ _ rfl) rfl) ?_))
          simp only [show (ByteArray.mk #[113] ++ ByteArray.mk #[bI]) = ⟨[113, bI].toArray⟩ from str_append [113] [bI]]
          obtain ⟨nm, hnm⟩ : ∃ l : List UInt8, l = [113, bI] := ⟨_, rfl⟩
          have HNM : Hid (nm.length ≤ 31) := Lib.hid (by rw [hnm]; simp)
          rw [← hnm]
          clear hnm hwrap
          obtain ⟨w8, hw8⟩ : ∃ W, W = wr.alloc (.cells #[.int .u8 bI.toNat] 5) := ⟨_, rfl⟩
          rw [← hw8]
          have M8 : Hid (BtAt w w8 (w.heap.size + 2) w.heap.size d' (.slice Zt zt bt) (.slice Zp zp bp) (.slice Zq zq bq) vb) := Lib.hid (by rw [hw8]; exact MR.out.far ((Upd.refl _ wr).alloc _))
          clear hw8
          obtain ⟨kd, hkd⟩ : ∃ x, x = d'.kind := ⟨_, rfl⟩
          have d1 : w8.cell? ⟨w.heap.size, 1, none⟩ = some (.int .i64 kd) := by rw [hkd]; exact M8.out.row.cell 1
          have hDl := M8.out.row.lt
          have hDn : w.heap.size ≠ w8.heap.size := Nat.ne_of_lt hDl
          clear hkd
          by_cases e1 : kd = 1
          · subst e1
            have d6 : w8.cell? ⟨w.heap.size, 6, none⟩ = some (.slice Zt zt bt) := M8.out.row.cell 6
            go_wp2_with (at_builtin; refine wpList_append_sl rfl (.tmp 184) (.tmp 186) _ rfl T_tiers (v := (.slice Zt zt bt)) rfl (M8.out.far ((Upd.refl _ w8).alloc _)).t (m := 1) (news := [.int .i64 0, .int .i64 1]) rfl (Rd.of_new (cs := #[.int .i64 0, .int .i64 1]) (Row.new_at _ _ _ _ rfl) rfl) (by intro u hu; simp at hu; rcases hu with rfl | rfl <;> rfl) (by have := HS.out.2; have := HN2.out; have := HI.out; unfold maxLen; omega) (by have := HS.out.2; have := HN2.out; have := HI.out; omega) ?_; intro v9 w9 hA; obtain ⟨A9, c9, rfl, _⟩ := hA.sl.form; have HH := BtAt.addT (xs := [((0 : Int), (1 : Int))]) M8.out ((Upd.refl _ w8).alloc _) rfl rfl hA; have B9 := Lib.hid HH.2; clear d6; have d6 := HH.1.cell 6; have f6 := HH.1.frozen (j := 6) (by simp [dcells]); clear hA HH)
            go_roundw
            all_goals (first
              | exact ⟨i + 1, by go_num, by omega, _, _, _, _, _, B9.out, sz1_t HS.out (by have := HN2.out; omega) (by decide)⟩
              | ((repeat apply Exists.intro); exact ⟨⟨i + 1, by go_num, by omega, _, _, _, _, _, B9.out, sz1_t HS.out (by have := HN2.out; omega) (by decide)⟩, rfl⟩)
              | (simp [intOf]; omega))
          · have e1b : (kd == 1) = false := by simpa using e1
            clear e1
            by_cases e2 : kd = 2
            · subst e2
              have d8 : w8.cell? ⟨w.heap.size, 8, none⟩ = some (.slice Zp zp bp) := M8.out.row.cell 8
              go_wp2_with (at_builtin; refine wpList_append_sl rfl (.tmp 192) (.tmp 195) _ rfl T_places (v := (.slice Zp zp bp)) rfl (M8.out.far ((Upd.refl _ w8).alloc _)).p (m := 1) (news := [.string ⟨nm.toArray⟩, .int .i64 1]) rfl (Rd.of_new (cs := #[.string ⟨nm.toArray⟩, .int .i64 1]) (Row.new_at _ _ _ _ rfl) rfl) (by intro u hu; simp at hu; rcases hu with rfl | rfl <;> rfl) (by have := HS.out.2; have := HN2.out; have := HI.out; unfold maxLen; omega) (by have := HS.out.2; have := HN2.out; have := HI.out; omega) ?_; intro v9 w9 hA; obtain ⟨A9, c9, rfl, _⟩ := hA.sl.form; have HH := BtAt.addP (xs := [(nm, (1 : Int))]) M8.out ((Upd.refl _ w8).alloc _) rfl rfl hA; have B9 := Lib.hid HH.2; clear d8; have d8 := HH.1.cell 8; have f8 := HH.1.frozen (j := 8) (by simp [dcells]); clear hA HH)
              go_roundw
              all_goals (first
                | exact ⟨i + 1, by go_num, by omega, _, _, _, _, _, B9.out, sz1_p HS.out (by have := HN2.out; omega) (small_ok HNM.out)⟩
                | ((repeat apply Exists.intro); exact ⟨⟨i + 1, by go_num, by omega, _, _, _, _, _, B9.out, sz1_p HS.out (by have := HN2.out; omega) (small_ok HNM.out)⟩, rfl⟩)
                | (simp [intOf]; omega))
            · have e2b : (kd == 2) = false := by simpa using e2
              clear e2
              by_cases e3 : kd = 3
              · subst e3
                have d11 : w8.cell? ⟨w.heap.size, 11, none⟩ = some (.slice Zq zq bq) := M8.out.row.cell 11
                go_wp2_with (at_builtin; refine wpList_append_sl rfl (.tmp 201) (.tmp 204) _ rfl T_quotas (v := (.slice Zq zq bq)) rfl (M8.out.far ((Upd.refl _ w8).alloc _)).q (m := 1) (news := [.string ⟨nm.toArray⟩, .int .i64 0, .int .i64 0]) rfl (Rd.of_new (cs := #[.string ⟨nm.toArray⟩, .int .i64 0, .int .i64 0]) (Row.new_at _ _ _ _ rfl) rfl) (by intro u hu; simp at hu; rcases hu with rfl | rfl | rfl <;> rfl) (by have := HS.out.2; have := HN2.out; have := HI.out; unfold maxLen; omega) (by have := HS.out.2; have := HN2.out; have := HI.out; omega) ?_; intro v9 w9 hA; obtain ⟨A9, c9, rfl, _⟩ := hA.sl.form; have HH := BtAt.addQ (xs := [(nm, (0 : Int), (0 : Int))]) M8.out ((Upd.refl _ w8).alloc _) rfl rfl hA; have B9 := Lib.hid HH.2; clear d11; have d11 := HH.1.cell 11; have f11 := HH.1.frozen (j := 11) (by simp [dcells]); clear hA HH)
                go_roundw
                all_goals (first
                  | exact ⟨i + 1, by go_num, by omega, _, _, _, _, _, B9.out, sz1_q HS.out (by have := HN2.out; omega) (small_ok HNM.out)⟩
                  | ((repeat apply Exists.intro); exact ⟨⟨i + 1, by go_num, by omega, _, _, _, _, _, B9.out, sz1_q HS.out (by have := HN2.out; omega) (small_ok HNM.out)⟩, rfl⟩)
                  | (simp [intOf]; omega))
              · have e3b : (kd == 3) = false := by simpa using e3
                clear e3
                go_wp2_with fail
                go_roundw
                all_goals (first
                  | exact ⟨i + 1, by go_num, by omega, _, _, _, _, _, M8.out, HS.out.mono (by omega)⟩
                  | ((repeat apply Exists.intro); exact ⟨⟨i + 1, by go_num, by omega, _, _, _, _, _, M8.out, HS.out.mono (by omega)⟩, rfl⟩)
                  | (simp [intOf]; omega))
        · have hlti : ¬ (i : Int) < 10 + (k4 : Int) := by omega
          go_wp2_with (go_at_call 20; refine (K4.out _).mono ?_; rintro en wX ⟨rfl, rfl⟩)
          go_meet
          exact ⟨_, _, _, _, _, MR.out, HS.out.mono (by omega)⟩
  case rest =>
    obtain ⟨d', vt, vp, vq, vb, hb, hs⟩ := hcut
    have BB := Lib.hid hb
    have SS := Lib.hid hs
    clear hb hs
    obtain ⟨Zt, zt, bt, et⟩ : ∃ A n c, vt = .slice A n c := by obtain ⟨A, c, e, _⟩ := BB.out.t.form; exact ⟨_, _, _, e⟩
    subst et
    obtain ⟨Zp, zp, bp, ep⟩ : ∃ A n c, vp = .slice A n c := by obtain ⟨A, c, e, _⟩ := BB.out.p.form; exact ⟨_, _, _, e⟩
    subst ep
    obtain ⟨Zq, zq, bq, eq⟩ : ∃ A n c, vq = .slice A n c := by obtain ⟨A, c, e, _⟩ := BB.out.q.form; exact ⟨_, _, _, e⟩
    subst eq
    obtain ⟨Zb, zb, bb, eb⟩ : ∃ A n c, vb = .slice A n c := by obtain ⟨A, c, e, _⟩ := BB.out.b.form; exact ⟨_, _, _, e⟩
    subst eb
    have hagg := Try.underlying30
    go_wp2_with (first
      | (show wpList _ _ _ (⟨some 207, _, _, _, _, _⟩ :: _) _ _; refine wpList_load_mid rfl 30 (.tmp 2) rfl (w.heap.size) 0 rfl (dcells d' (.slice Zt zt bt) (.slice Zp zp bp) (.slice Zq zq bq) (.slice Zb zb bb)) _ BB.out.row.rangeAt hagg rfl (by kernel_rfl) ?_)
      | (show wpList _ _ _ (⟨none, .store _ _ _, _, _, _, _⟩ :: _) _ _; refine wpList_store_all rfl 30 (.tmp 4) (.tmp 207) rfl (dcells d' (.slice Zt zt bt) (.slice Zp zp bp) (.slice Zq zq bq) (.slice Zb zb bb)) rfl rfl BB.out.res rfl (by kernel_rfl) rfl ?_; intro wz hrz huz; have RZ := Lib.hid hrz; have UZ := Lib.hid huz; clear hrz huz))
    refine bodyPost_ret (results_row (g := w.heap.size + 2) (cs := dcells d' (.slice Zt zt bt) (.slice Zp zp bp) (.slice Zq zq bq) (.slice Zb zb bb)) rfl rfl RZ.out hagg rfl (by kernel_rfl)) rfl ?_
    exact bt_done BB.out SS.out UZ.out
end Go.Proofs.Ytaejnhgnacgheaa
