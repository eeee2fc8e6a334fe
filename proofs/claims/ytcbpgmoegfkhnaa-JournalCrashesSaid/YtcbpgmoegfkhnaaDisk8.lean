/- disk: Crash. -/
import Derived.Test.YtcbpgmoegfkhnaaDisk7
namespace Go.Proofs.Ytcbpgmoegfkhnaa
set_option linter.unusedVariables false
open Go.RowKit

def ivs (q : List Int) : List Value := q.map (.int .i64)
theorem ivs_length (q : List Int) : (ivs q).length = q.length := by simp [ivs]
def alive (q : List Int) (k : Nat) : Bool := decide (0 < q.length) && ((q.getD (k % q.length) 0).tmod 2 != 0)

def crashL (q : List Int) : Nat → List (Nat × List UInt8) → List UInt8 → List UInt8
  | _, [], c => c
  | k, p :: ps, c => crashL q (k + 1) ps (if alive q k then putL c p.1 p.2 else c)

def crashedSt (s : DSt) (q : List Int) : DSt :=
  { now := crashL q 0 s.pieces s.synced, synced := crashL q 0 s.pieces s.synced, pieces := [], calls := 0, failing := false, left := 0 }

def newSt : DSt := { now := [], synced := [], pieces := [], calls := 0, failing := false, left := 0 }

theorem dk_new (w : World) (F : Nat → Prop) (hF : F w.heap.size) : DiskAt (w.alloc (.cells (dcells (.slice none 0 0) (.slice none 0 0) (.slice none 0 0) 0 false 0).toArray 57)) F w.heap.size newSt :=
  ⟨.slice none 0 0, .slice none 0 0, .slice none 0 0, [], Row.new w _ _, Sl.nil_ _ _ _, Sl.nil_ _ _ _, Sl.nil_ _ _ _, ⟨rfl, by simp [newSt]⟩, hF, by simp [Value.ownBlock], by simp [Value.ownBlock], by simp [Value.ownBlock]⟩

def Fresh (w w' : World) (k : Nat) : Prop := w.heap.size ≤ k ∧ k < w'.heap.size
def NewDisk (w : World) (s : DSt) (e : Ending) (w' : World) : Prop := ∃ b, e = .returned (.pointer (some ⟨b, 0, none⟩)) ∧ DiskAt w' (Fresh w w') b s ∧ Upd (fun _ => False) w w'

theorem new_disk (w : World) : Calls Try.prog 10 #[] w (NewDisk w newSt) :=
  (new_any w).mono fun e w' ⟨he, hw⟩ => by
    subst hw
    exact ⟨_, he, dk_new w _ ⟨Nat.le_refl _, by simp⟩, (Upd.refl _ w).alloc _⟩

theorem crash_nil (w : World) (v : Value) : Calls Try.prog 17 #[.pointer none, v] w (NewDisk w newSt) := by
  go_enter Try.func17, Try.ntmps17
  go_wp2_with (go_at_call 10; refine (new_any _).mono ?_; rintro e w' ⟨rfl, rfl⟩)
  go_ret
  exact ⟨_, rfl, dk_new w _ ⟨Nat.le_refl _, by simp⟩, (Upd.refl _ w).alloc _⟩

theorem Sl.empty_lit (w : World) (e g : Nat) (hg : g = w.heap.size) : Sl (w.alloc (.cells #[] e)) (.slice (some ⟨g, 0, none⟩) 0 0) e 1 0 [] := by
  subst hg
  exact ⟨rfl, .inr ⟨w.heap.size, 0, 0, [], rfl, Row.new w e #[], Nat.le_refl _, Nat.zero_le _, by simp, rfl⟩⟩

/-- What holds at each head of Crash's loop. -/
def CRel (w : World) (q : List Int) (s : DSt) (r : List UInt8) (k : Nat) (v : Value) (wr : World) : Prop :=
  ∃ c : List UInt8, crashL q k (s.pieces.drop k) c = r ∧ Sl wr v 5 1 c.length (bvs c) ∧ c.length ≤ 16777216 ∧ (∀ g, v.ownBlock = some g → w.heap.size ≤ g) ∧
    DRow wr w.heap.size (.slice none 0 0) (.slice none 0 0) (.slice none 0 0) 0 false 0 ∧ Upd (fun _ => False) w wr

theorem crel_start {w w1 : World} {F : Nat → Prop} {b : Nat} {s : DSt} {vn vs vp v1 : Value} {cells : List Value} {q : List Int} (hk : Dk w F b s vn vs vp cells)
    (hA : Appended ((w.alloc (.cells (dcells (.slice none 0 0) (.slice none 0 0) (.slice none 0 0) 0 false 0).toArray 57)).alloc (.cells #[] 5)) (.slice (some ⟨w.heap.size + 1, 0, none⟩) 0 0) 5 1 (0 + s.synced.length) ([] ++ bvs s.synced) v1 w1)
    (hsy : s.synced.length ≤ 16777216) : CRel w q s (crashL q 0 s.pieces s.synced) 0 v1 w1 ∧ DRow w1 b vn vs vp s.calls s.failing s.left := by
  have hu0 : Upd (fun _ => False) w ((w.alloc (.cells (dcells (.slice none 0 0) (.slice none 0 0) (.slice none 0 0) 0 false 0).toArray 57)).alloc (.cells #[] 5)) := (((Upd.refl (fun _ => False) w).alloc _).alloc _)
  have hu1 : Upd (fun _ => False) w w1 := hu0.trans hA.upd (fun k hk' e => by simp [Value.ownBlock] at e; omega)
  refine ⟨⟨s.synced, rfl, by simpa using hA.sl, hsy, fun g hg => ?_, ?_, hu1⟩, hk.row.upd hu1 id⟩
  · rcases hA.at_ with e | e
    · rw [e.1] at hg; simp [Value.ownBlock] at hg; omega
    · rw [e.1] at hg; simp at hg; omega
  · have h0 : DRow (w.alloc (.cells (dcells (.slice none 0 0) (.slice none 0 0) (.slice none 0 0) 0 false 0).toArray 57)) w.heap.size (.slice none 0 0) (.slice none 0 0) (.slice none 0 0) 0 false 0 := Row.new w _ _
    have h1 := Row.upd h0 ((Upd.refl (fun _ => False) _).alloc (.cells #[] 5)) id
    exact Row.upd h1 hA.upd (by simp [Value.ownBlock])

theorem crel_skip {w wr : World} {q : List Int} {s : DSt} {r : List UInt8} {k : Nat} {v : Value} {o : Obj} {p : Nat × List UInt8} (h : CRel w q s r k v wr) (hp : s.pieces[k]? = some p) (ha : alive q k = false) : CRel w q s r (k + 1) v (wr.alloc o) := by
  obtain ⟨c, h1, h2, h3, h4, h5, h6⟩ := h
  obtain ⟨hk, rfl⟩ := List.getElem?_eq_some_iff.1 hp
  rw [List.drop_eq_getElem_cons hk] at h1
  simp only [crashL, ha] at h1
  exact ⟨c, h1, h2.far ((Upd.refl _ wr).alloc o), h3, h4, Row.upd h5 ((Upd.refl (fun _ => False) wr).alloc o) id, h6.alloc o⟩

/-- What put asks for, in a round. -/
theorem crel_ask {w wr : World} {F : Nat → Prop} {b : Nat} {q : List Int} {s : DSt} {r : List UInt8} {k : Nat} {v vn vs vp : Value} {cells : List Value} {o : Obj} {p : Nat × List UInt8} {A : Option Addr} {d : Nat} (hk : Dk w F b s vn vs vp cells) (h : CRel w q s r k v wr) (hp : s.pieces[k]? = some p)
    (hc : cells[2 * k + 1]? = some (.slice A p.2.length d)) :
    ∃ c, crashL q k (s.pieces.drop k) c = r ∧ c.length ≤ 16777216 ∧ Sl (wr.alloc o) v 5 1 c.length (bvs c) ∧ Rd (wr.alloc o) (.slice A p.2.length d) 1 p.2.length (bvs p.2) ∧
      ∀ g, (Value.slice A p.2.length d).ownBlock = some g → g < (wr.alloc o).heap.size ∧ v.ownBlock ≠ some g := by
  obtain ⟨c, h1, h2, h3, h4, h5, h6⟩ := h
  obtain ⟨A', d', g1, g2, g3, g4⟩ := hk.txt.2 k p hp
  rw [hc] at g2
  cases g2
  refine ⟨c, h1, h3, h2.far ((Upd.refl _ wr).alloc o), (g3.far (h6.alloc o)).rd, fun g hg => ?_⟩
  obtain ⟨f1, f2, f3⟩ := g4 g hg
  have := h6.size
  refine ⟨by simp; omega, fun e => ?_⟩
  have := h4 g e
  omega

theorem crel_put {w wr w2 : World} {q : List Int} {s : DSt} {r c : List UInt8} {k : Nat} {v v' : Value} {o : Obj} {p : Nat × List UInt8} (h : CRel w q s r k v wr) (hp : s.pieces[k]? = some p) (ha : alive q k = true)
    (hc : crashL q k (s.pieces.drop k) c = r) (hcl : c.length ≤ 16777216) (hpl : p.1 + p.2.length ≤ 16777216) (hP : PutEnds (wr.alloc o) v (putL c p.1 p.2) v' w2) : CRel w q s r (k + 1) v' w2 := by
  obtain ⟨_, _, h2, _, h4, h5, h6⟩ := h
  obtain ⟨hk, rfl⟩ := List.getElem?_eq_some_iff.1 hp
  rw [List.drop_eq_getElem_cons hk] at hc
  simp only [crashL, ha, if_true] at hc
  have hz := h6.size
  refine ⟨_, hc, hP.sl, by rw [putL_length]; omega, fun g hg => ?_, Row.upd (Row.upd h5 ((Upd.refl (fun _ => False) wr).alloc o) id) hP.upd (fun e => ?_), (h6.alloc o).trans hP.upd (fun g hg e => ?_)⟩
  · rcases hP.at_ with e | ⟨g', e, hg'⟩
    · exact h4 g (by rw [← e]; exact hg)
    · rw [e] at hg; cases hg; simp at hg'; omega
  · obtain ⟨cs, hr⟩ := h2.row e
    exact hr.ne_ h5 (by decide) rfl
  · have := h4 g e; omega

/-- The two stores at the end. -/
theorem crel_end {w wr : World} {q : List Int} {s : DSt} {r : List UInt8} {v : Value} (h : CRel w q s r s.pieces.length v wr) :
    Sl wr v 5 1 r.length (bvs r) ∧ r.length ≤ 16777216 ∧ DRow wr w.heap.size (.slice none 0 0) (.slice none 0 0) (.slice none 0 0) 0 false 0 ∧
    Rd ((wr.setCell ⟨w.heap.size, 0, none⟩ v).alloc (.cells #[] 5)) v 1 r.length (bvs r) ∧
    ∀ (w2 : World) (v2 : Value), Appended ((wr.setCell ⟨w.heap.size, 0, none⟩ v).alloc (.cells #[] 5)) (.slice (some ⟨wr.heap.size, 0, none⟩) 0 0) 5 1 (0 + r.length) ([] ++ bvs r) v2 w2 →
      DRow w2 w.heap.size v (.slice none 0 0) (.slice none 0 0) 0 false 0 ∧
      NewDisk w { newSt with now := r, synced := r } (.returned (.pointer (some ⟨w.heap.size, 0, none⟩))) (w2.setCell ⟨w.heap.size, 1, none⟩ v2) := by
  obtain ⟨c, h1, h2, h3, h4, h5, h6⟩ := h
  simp only [List.drop_length, crashL] at h1
  subst h1
  have hvb : v.ownBlock ≠ some w.heap.size := fun e => by obtain ⟨cs, hr⟩ := h2.row e; exact hr.ne_ h5 (by decide) rfl
  have ho : Only w.heap.size wr (wr.setCell ⟨w.heap.size, 0, none⟩ v) := Only.set _ _ _ _
  have h2' : Sl (wr.setCell ⟨w.heap.size, 0, none⟩ v) v 5 1 c.length (bvs c) := h2.upd ho.1 (fun k hk e => hvb (by rw [hk, e]))
  have h5' : DRow (wr.setCell ⟨w.heap.size, 0, none⟩ v) w.heap.size v (.slice none 0 0) (.slice none 0 0) 0 false 0 := h5.set 0 v
  have hua : Upd (fun _ => False) (wr.setCell ⟨w.heap.size, 0, none⟩ v) ((wr.setCell ⟨w.heap.size, 0, none⟩ v).alloc (.cells #[] 5)) := (Upd.refl _ _).alloc _
  refine ⟨h2, h3, h5, (h2'.far hua).rd, fun w2 v2 hA => ?_⟩
  have hlt := h5.lt
  have hr2 : DRow w2 w.heap.size v (.slice none 0 0) (.slice none 0 0) 0 false 0 := Row.upd (Row.upd h5' hua id) hA.upd (by simp [Value.ownBlock]; omega)
  have hv2 : v2.ownBlock ≠ some w.heap.size := fun e => by obtain ⟨cs, hr⟩ := hA.sl.row e; exact hr.ne_ hr2 (by decide) rfl
  have hsv : Sl w2 v 5 1 c.length (bvs c) := (h2'.far hua).upd hA.upd (fun k hk e => by
    simp [Value.ownBlock] at e
    have := h2.lt hk
    omega)
  have hos : Only w.heap.size w2 (w2.setCell ⟨w.heap.size, 1, none⟩ v2) := Only.set _ _ _ _
  have hv2b : ∀ k, v2.ownBlock = some k → wr.heap.size ≤ k := fun k hk => by
    rcases hA.at_ with e | e
    · rw [e.1] at hk; simp [Value.ownBlock] at hk; omega
    · rw [e.1] at hk; simp at hk; omega
  have hz := h6.size
  have hz2 := hA.upd.size
  simp at hz2
  refine ⟨hr2, w.heap.size, rfl, ⟨v, v2, .slice none 0 0, [], hr2.set 1 v2, hsv.upd hos.1 (fun k hk e => hvb (by rw [hk, e])), by
      have := hA.sl.upd hos.1 (fun k hk e => hv2 (by rw [hk, e]))
      simpa using this, Sl.nil_ _ _ _, ⟨rfl, by simp [newSt]⟩, ⟨Nat.le_refl _, by simp; omega⟩, fun k hk => ⟨⟨h4 k hk, by have := hsv.lt hk; simpa using this⟩, fun e => ?_⟩, fun k hk => ⟨by have := hv2b k hk; omega, by have := hA.sl.lt hk; simpa using this⟩, by simp [Value.ownBlock]⟩, ?_⟩
  · have a1 := h2.lt hk
    have a2 := hv2b k e
    omega
  · exact ((((h6.trans ho.1 (fun k hk e => by omega)).trans hua (fun _ _ h => h)).trans hA.upd (fun k hk e => by simp [Value.ownBlock] at e; omega)).trans hos.1 (fun k hk e => by omega))

theorem Rd.some_ {w : World} {A : Option Addr} {size n c : Nat} {xs : List Value} (h : Rd w (.slice A n c) size n xs) (hn : 0 < n) : ∃ g o, A = some ⟨g, o, none⟩ := by
  obtain ⟨_, A', c', hv, _, h0, hc⟩ := h
  cases hv
  cases A with
  | none => have := h0 rfl; omega
  | some ad => exact ⟨ad.block, ad.off, by have := (hc ad rfl).1; cases ad; simp_all⟩
theorem Rd.cellAt {w : World} {g o size n c : Nat} {xs : List Value} (h : Rd w (.slice (some ⟨g, o, none⟩) n c) size n xs) {j : Nat} {u : Value} (hu : xs[j]? = some u) : w.cell? ⟨g, o + j, none⟩ = some u := by
  obtain ⟨_, A', c', hv, _, h0, hc⟩ := h
  cases hv
  exact (hc _ rfl).2 j u hu

theorem alive_false0 (q : List Int) (k : Nat) (h : q.length = 0) : alive q k = false := by unfold alive; simp [h]
theorem alive_of (q : List Int) (k : Nat) (x : Int) (h : 0 < q.length) (hx : q[k % q.length]? = some x) : alive q k = (x.tmod 2 != 0) := by
  unfold alive
  rw [List.getD_eq_getElem?_getD, hx]
  simp [h]

set_option maxHeartbeats 2000000 in
theorem crash_any (w : World) (F : Nat → Prop) (hF : ∀ k, F k → k < w.heap.size) (b : Nat) (s : DSt) (hd : DiskAt w F b s) (Aq : Option Addr) (nq cq : Nat) (q : List Int) (hq : Rd w (.slice Aq nq cq) 1 nq (ivs q)) (hqb : ∀ k, (Value.slice Aq nq cq).ownBlock = some k → k < w.heap.size)
    (hqn : nq ≤ maxLen) (hsy : s.synced.length ≤ 16777216) (hpc : s.pieces.length ≤ 1000000000) (hps : ∀ p, p ∈ s.pieces → p.1 + p.2.length ≤ 16777216) :
    Calls Try.prog 17 #[.pointer (some ⟨b, 0, none⟩), .slice Aq nq cq] w (NewDisk w (crashedSt s q)) := by
  obtain ⟨vn, vs, vp, cells, hk⟩ := hd
  obtain ⟨Ap, cp, rfl, hcp⟩ := hk.pcs.form
  have hb := hk.row.lt
  have hk1 : Dk (w.alloc (.cells (dcells (.slice none 0 0) (.slice none 0 0) (.slice none 0 0) 0 false 0).toArray 57)) F b s vn vs (.slice Ap s.pieces.length cp) cells := hk.upd ((Upd.refl (fun _ => False) w).alloc _) (fun _ _ => id) (fun _ h => h)
  have c1 := hk1.row.c1
  have c2 := hk1.row.c2
  unfold maxLen at hqn
  have hs1 := Sl.empty_lit (w.alloc (.cells (dcells (.slice none 0 0) (.slice none 0 0) (.slice none 0 0) 0 false 0).toArray 57)) 5 (w.heap.size + 1) (by simp)
  have hx1 : Rd ((w.alloc (.cells (dcells (.slice none 0 0) (.slice none 0 0) (.slice none 0 0) 0 false 0).toArray 57)).alloc (.cells #[] 5)) vs 1 s.synced.length (bvs s.synced) := (hk.syn.far (((Upd.refl (fun _ => False) w).alloc _).alloc _)).rd
  have HS1 := Lib.hid hs1
  have HX1 := Lib.hid hx1
  have HK := Lib.hid hk
  have HQ := Lib.hid hq
  clear hk hk1 hq hs1 hx1
  go_enter Try.func17, Try.ntmps17
  go_wp2_with (first
    | (go_at_call 10; refine (new_any _).mono ?_; rintro e w' ⟨rfl, rfl⟩)
    | (show wpList _ _ _ (⟨some 18, _, _, _, _, _⟩ :: _) _ _; go_must (refine wpList_append_sl rfl (.tmp 13) (.tmp 17) _ rfl T_bytes rfl HS1.out rfl HX1.out (bvs_ones _) (by unfold maxLen; omega) (by omega) ?_); intro v1 w1 hA; go_must (have hC := crel_start (q := q) HK.out hA hsy); have d2 := hC.2.c2))
  go_loopw [6, 25] (fun v i wr => ∃ k : Nat, k ≤ s.pieces.length ∧ i = .int .i64 k ∧ CRel w q s (crashL q 0 s.pieces s.synced) k v wr) (fun _ i _ => s.pieces.length - (intOf i).toNat)
  case atStart => exact ⟨0, Nat.zero_le _, rfl, hC.1⟩
  case round =>
    clear hC d2 hA
    obtain ⟨k, hkl, rfl, hR⟩ := hrel
    by_cases hlt : k < s.pieces.length
    · obtain ⟨p, hp⟩ : ∃ p, s.pieces[k]? = some p := ⟨_, List.getElem?_eq_getElem hlt⟩
      obtain ⟨A, d, g1, g2, _, _⟩ := HK.out.txt.2 k p hp
      obtain ⟨g, o, rfl⟩ := Sl.some_ HK.out.pcs (by omega)
      have hu : Upd (fun _ => False) w wr := by obtain ⟨_, _, _, _, _, _, h6⟩ := hR; exact h6
      have hcell := (HK.out.pcs.far hu).rd.2
      have e0 : wr.cell? ⟨g, o + k * 2, none⟩ = some (.int .i64 p.1) := by
        obtain ⟨_, _, hv, _, _, hc⟩ := hcell
        cases hv
        exact (hc _ rfl).2 (k * 2) _ (by rw [Nat.mul_comm]; exact g1)
      have e1 : wr.cell? ⟨g, o + k * 2 + 1, none⟩ = some (.slice A p.2.length d) := by
        obtain ⟨_, _, hv, _, _, hc⟩ := hcell
        cases hv
        exact (hc _ rfl).2 (k * 2 + 1) _ (by rw [Nat.mul_comm]; exact g2)
      have hgw := World.block_lt_of_cell? _ _ e0
      have HR := Lib.hid hR
      have HP := Lib.hid hp
      have G2 := Lib.hid g2
      have hql : q.length = nq := by have := HQ.out.1; rw [ivs_length] at this; omega
      have HQL := Lib.hid hql
      clear hcell hu hR hp g1 g2 hql
      by_cases hq0 : nq = 0
      · subst hq0
        go_wp2_with fail
        go_roundw
        case rel => exact ⟨k + 1, hlt, by go_num, crel_skip HR.out HP.out (alive_false0 q k HQL.out)⟩
        case measure => simp [intOf]; omega
      · have hq1 : 0 < nq := by omega
        obtain ⟨gq, oq, rfl⟩ := Rd.some_ HQ.out hq1
        have hkm : k % nq < nq := Nat.mod_lt _ hq1
        obtain ⟨x, hx⟩ : ∃ x, q[k % nq]? = some x := ⟨_, List.getElem?_eq_getElem (by rw [HQL.out]; exact hkm)⟩
        have hu : Upd (fun _ => False) w wr := by obtain ⟨_, _, _, _, _, _, h6⟩ := HR.out; exact h6
        have eq0 : wr.cell? ⟨gq, oq + k % nq, none⟩ = some (.int .i64 x) := (HQ.out.upd hu (fun k hk => ⟨hqb k hk, id⟩)).cellAt (by simp [ivs, hx])
        have hgqw := World.block_lt_of_cell? _ _ eq0
        have HAL : Hid (alive q k = (x.tmod 2 != 0)) := alive_of q k x (by rw [HQL.out]; exact hq1) (by rw [HQL.out]; exact hx)
        have HX := Lib.hid hx
        clear hx hu hq0
        by_cases ha : (x.tmod 2 != 0) = true
        · have HA := Lib.hid ha
          obtain ⟨c, k1, k2, k3, k4, k5⟩ := crel_ask (o := .cells #[.int .i64 p.1, .slice A p.2.length d] 68) HK.out HR.out HP.out G2.out
          have K1 := Lib.hid k1
          have K3 := Lib.hid k3
          have K4 := Lib.hid k4
          clear k1 k3 k4
          have hpl := hps p (List.mem_of_getElem? HP.out)
          go_wp2_with (go_at_call 33; go_must (refine (put_any _ u6 A d c.length p.2.length p.1 c p.2 K3.out K4.out k5 (by omega) (by omega)).mono ?_; rintro e w2 ⟨v', rfl, hPE⟩))
          go_roundw
          case rel => exact ⟨k + 1, hlt, by go_num, crel_put HR.out HP.out (HAL.out.trans HA.out) K1.out k2 hpl hPE⟩
          case measure => simp [intOf]; omega
        · have ha' : (x.tmod 2 != 0) = false := by simpa using ha
          clear ha
          have HA := Lib.hid ha'
          go_wp2_with fail
          go_roundw
          case rel => exact ⟨k + 1, hlt, by go_num, crel_skip HR.out HP.out (HAL.out.trans HA.out)⟩
          case measure => simp [intOf]; omega
    · have hkn : k = s.pieces.length := by omega
      subst hkn
      have hE := crel_end hR
      obtain ⟨Av, cv, rfl, _⟩ := hE.1.form
      have d0 := hE.2.2.1.c0
      have f0 := hE.2.2.1.fz 0 (by omega)
      have hrl := hE.2.1
      have hlr := hE.2.2.1.lt
      have HE := Lib.hid hE
      clear hE hR
      have hs2 := Sl.empty_lit (wr.setCell ⟨w.heap.size, 0, none⟩ (.slice Av (crashL q 0 s.pieces s.synced).length cv)) 5 wr.heap.size (by simp)
      have HS2 := Lib.hid hs2
      clear hs2
      go_wp2_with (show wpList _ _ _ (⟨some 58, _, _, _, _, _⟩ :: _) _ _; go_must (refine wpList_append_sl rfl (.tmp 56) (.tmp 57) _ rfl T_bytes rfl HS2.out rfl HE.out.2.2.2.1 (bvs_ones _) (by unfold maxLen; omega) (by omega) ?_; intro v2 w2 hA; obtain ⟨A2, c2, rfl, _⟩ := hA.sl.form; have hZ := HE.out.2.2.2.2 _ _ hA; have z1 := hZ.1.c1; have zf := hZ.1.fz 1 (by omega)))
      go_ret
      simp only [Nat.zero_add] at hZ
      exact hZ.2
end Go.Proofs.Ytcbpgmoegfkhnaa
