/- the maker of entrants: Entrants (printed by gen-t34.py). -/
import Derived.Test.YtaejnhgnacgheaaT33
import Derived.Test.YtaejnhgnacgheaaLeaf2
import Derived.Deep.CutRange
import Derived.Deep.CutBlock
namespace Go.Proofs.Ytaejnhgnacgheaa
set_option linter.unusedVariables false
set_option linter.unusedSimpArgs false
open Go.RowKit

/-- what Entrants leaves -/
def MadeP (d : DrawL) (L : List Int) (w : World) (e : Ending) (w' : World) : Prop :=
  ∃ (v : Value) (X : List EntV), e = .returned v ∧ X.map (·.1) = (entsL d L (nextV L 0 7).toNat).1 ∧ OutAt w.heap.size w' v X ∧ Kp w w'
theorem runE_succ (f : Int) (k : Nat) : runE f (k + 1) = runE f k ++ [f + (k : Int)] := by simp [runE, List.range_succ]
theorem balW_succ (d : DrawL) (f : Int) (k : Nat) : balW d f (k + 1) = balW d f k ++ [(d.places.getD ((f.toNat + k) % d.places.length) ([], 0)).1] := by simp [balW, List.range_succ]
theorem oneE_oks {d : DrawL} (hg : Good d) (hok : DrawOk d) (L : List Int) (K i : Nat) : EntOk (oneE d L K i).1 := by
  rcases hg.kind with hk | hk | hk
  · obtain ⟨⟨a1, a2, a3, a4, a5⟩, _⟩ := hg.k1 hk
    obtain ⟨hl, hp⟩ := pickOf hg hk L K
    unfold oneE
    rw [if_pos hk]
    refine ⟨by show (lotP d L K).length ≤ _; omega, by simp, by simp, ?_, by simp, by simp⟩
    have key : ∀ x, x ∈ lotP d L K → in64 x := by
      intro x hx
      obtain ⟨j, hj, rfl⟩ := List.mem_iff_getElem.1 hx
      have := hp j hj
      exact in64_small (by omega) (by omega)
    exact key
  · obtain ⟨hpl, _⟩ := hg.k2 hk
    obtain ⟨p1, p2, _⟩ := places_facts hpl
    have b4 := nextV_bounds L (K + 3) (n := (d.places.length : Int) + 1) (by omega)
    unfold oneE
    rw [if_neg (by omega), if_pos hk]
    refine ⟨by simp, by show (balW d _ _).length ≤ _; rw [balW_len]; omega, by simp, by simp, ?_, by simp⟩
    intro x hx
    obtain ⟨k, _, rfl⟩ := List.mem_map.1 hx
    have m1 : ((nextV L (K + 2) d.places.length).toNat + k) % d.places.length < d.places.length := Nat.mod_lt _ (by omega)
    rw [List.getD_eq_getElem?_getD, List.getElem?_eq_getElem m1]
    exact hok.pname _ (List.getElem_mem _)
  · have hp := (panG_facts (nextV L K 8)).1
    have hw := (panG_facts (nextV L K 8)).2.1
    unfold oneE
    rw [if_neg (by omega), if_neg (by omega)]
    refine ⟨by simp, by simp, by show (panG _ 3).length ≤ _; omega, by simp, by simp, ?_⟩
    intro x hx
    obtain ⟨k, _, rfl⟩ := List.mem_map.1 hx
    show (wordL _).length ≤ maxLen
    rw [word_len]; unfold maxLen; decide
theorem Sl.at1 {w : World} {g off n cap e n' : Nat} {xs : List Value} (h : Sl w (.slice (some ⟨g, off, none⟩) n cap) e 1 n' xs) {j : Nat} {u : Value} (hj : xs[j]? = some u) : w.cell? ⟨g, off + j, none⟩ = some u := by
  obtain ⟨_, A, c, hv, _, _, hc⟩ := h.rd
  cases hv
  exact (hc _ rfl).2 j u hj
theorem runE_at {f : Int} {n j : Nat} (h : j < n) : ((runE f n).flatMap numE)[j]? = some (.int .i64 (f + (j : Int))) := by
  rw [numE_flat, List.getElem?_map, List.getElem?_eq_getElem (by rw [runE_len]; exact h), runE_get]; rfl
theorem panG_succ (s k : Nat) : panG (s : Int) (k + 1) = if (s / 2 ^ k) % 2 = 1 then panG (s : Int) k ++ [wordL (k : Int)] else panG (s : Int) k := by
  have hd : ∀ k : Nat, decide (((s : Int) / 2 ^ k) % 2 = 1) = decide ((s / 2 ^ k) % 2 = 1) := by
    intro k
    have e : ((s : Int) / 2 ^ k) % 2 = (((s / 2 ^ k) % 2 : Nat) : Int) := by simp
    rw [e]
    apply decide_eq_decide.2
    omega
  unfold panG
  rw [List.range_succ, List.filter_append, List.map_append]
  simp only [List.filter_cons, List.filter_nil, hd]
  by_cases h : (s / 2 ^ k) % 2 = 1 <;> simp [h]
theorem panG_len (s : Int) (k : Nat) (hk : k ≤ 3) : (panG s k).length ≤ 3 := by
  unfold panG
  rw [List.length_map]
  have := List.length_filter_le (fun k => decide ((s / 2 ^ k) % 2 = 1)) (List.range k)
  rw [List.length_range] at this
  omega
theorem Sl.one {w : World} {v : Value} {e size n : Nat} {xs : List Value} (h : Sl w v e size n xs) : v.oneCell' = true := by
  obtain ⟨A, c, rfl, _⟩ := h.form; rfl
set_option maxHeartbeats 16000000 in
set_option maxRecDepth 20000 in
theorem entrants_any (w : World) (d : DrawL) (vt vp vq vb : Value) (h : DrawIn w d vt vp vq vb) (hg : Good d) (A : Option Addr) (nl c : Nat) (L : List Int) (hl : Nums w (.slice A nl c) L) (hL : L.length ≤ maxLen) (hok : ∀ x, x ∈ L → in64 x) :
    Calls Try.prog 16 #[dval d vt vp vq vb, .slice A nl c] w (MadeP d L w) := by
  obtain ⟨A1, n1, c1, A2, n2, c2, A3, n3, c3, A4, n4, c4, rfl, rfl, rfl, rfl, hn2, hA2⟩ : ∃ A1 n1 c1 A2 n2 c2 A3 n3 c3 A4 n4 c4, vt = .slice A1 n1 c1 ∧ vp = .slice A2 n2 c2 ∧ vq = .slice A3 n3 c3 ∧ vb = .slice A4 n4 c4 ∧ n2 = d.places.length ∧ LstA 2 placeE w A2 c2 d.places := by
    obtain ⟨A1, c1, e1, _⟩ := h.t
    obtain ⟨A2, c2, e2, h2⟩ := h.p
    obtain ⟨A3, c3, e3, _⟩ := h.q
    obtain ⟨A4, c4, e4, _⟩ := h.b
    exact ⟨_, _, _, _, _, _, _, _, _, _, _, _, e1, e2, e3, e4, rfl, h2⟩
  have HN2 := Lib.hid hn2
  have HA2 := Lib.hid hA2
  have HG := Lib.hid hg
  have HOK := Lib.hid h.ok
  have NX : Hid (∀ (W : World) (K : Nat) (n : Int), Upd (fun b => w.heap.size ≤ b) w W → NumAt W (w.heap.size + 1) (.slice A nl c) L K → 0 < n → n ≤ 1000000 → Calls Try.prog 28 #[.pointer (some ⟨w.heap.size + 1, 0, none⟩), .int .i64 n] W (NextF (w.heap.size + 1) (.slice A nl c) L K n W)) := Lib.hid (fun W K n hu hr h0 h1 => next_fun hl hL hok hu (by omega) hr n h0 h1)
  obtain ⟨mn, hmn⟩ : ∃ m : Nat, nextV L 0 7 = m := ⟨(nextV L 0 7).toNat, by have := nextV_bounds L 0 (n := 7) (by decide); omega⟩
  have HMN : Hid (mn < 7 ∧ (nextV L 0 7).toNat = mn) := Lib.hid (by have := nextV_bounds L 0 (n := 7) (by decide); omega)
  have HMV := Lib.hid hmn
  clear h hg hl hL hok hn2 hA2 hmn
  go_enter Try.func16, Try.ntmps16
  go_upto_region 2 with fail
  obtain ⟨w0, hw0⟩ : ∃ W, W = (w.alloc (.cells (dcells d (.slice A1 n1 c1) (.slice A2 n2 c2) (.slice A3 n3 c3) (.slice A4 n4 c4)).toArray 30)).alloc (.cells #[.slice A nl c, .int .i64 0] 72) := ⟨_, rfl⟩
  change Code.wp _ _ _ _ ((w.alloc (.cells (dcells d (.slice A1 n1 c1) (.slice A2 n2 c2) (.slice A3 n3 c3) (.slice A4 n4 c4)).toArray 30)).alloc (.cells #[.slice A nl c, .int .i64 0] 72))
  rw [← hw0]
  have U0 : Hid (Kp w w0) := Lib.hid (by rw [hw0]; exact ((Upd.refl _ w).alloc _).alloc _)
  have D0 : Hid (Row w0 w.heap.size 30 (dcells d (.slice A1 n1 c1) (.slice A2 n2 c2) (.slice A3 n3 c3) (.slice A4 n4 c4))) := Lib.hid (by rw [hw0]; exact (Row.new w _ _).upd ((Upd.refl (fun _ => False) _).alloc _) id)
  have N0 : Hid (NumAt w0 (w.heap.size + 1) (.slice A nl c) L 0) := Lib.hid (by unfold NumAt; rw [Nat.zero_min, hw0]; exact Row.new_at _ _ _ _ (by simp))
  clear hw0
  go_upto_region 5 with (go_at_call 28; refine (NX.out w0 0 7 (U0.out.mono (fun _ _ h => h.elim)) N0.out (by decide) (by decide)).mono ?_; rintro en w1 ⟨rfl, hr, hu⟩; rw [HMV.out]; have N1 := Lib.hid hr; have U1 : Hid (Kp w w1) := Lib.hid (Upd.trans U0.out hu (fun b hb e => by omega)); have D1 := Lib.hid (D0.out.upd hu (by omega)); clear hr hu)
  go_wp2_with (fail)
  go_loopw [7, 8] (fun vo v wr => ∃ (i : Nat) (X : List EntV) (Ao : Option Addr) (no co : Nat), vo = .slice Ao no co ∧ v = .int .i64 i ∧ i ≤ mn ∧ X.map (·.1) = (entsL d L i).1 ∧ OutAt w.heap.size wr (.slice Ao no co) X ∧ NumAt wr (w.heap.size + 1) (.slice A nl c) L (entsL d L i).2 ∧ (Kp w wr ∧ Row wr w.heap.size 30 (dcells d (.slice A1 n1 c1) (.slice A2 n2 c2) (.slice A3 n3 c3) (.slice A4 n4 c4)))) (fun _ v _ => mn - (intOf v).toNat)
  case atStart => exact ⟨0, [], none, 0, 0, rfl, rfl, Nat.zero_le _, rfl, ⟨Sl.nil_ _ _ _, by simp [Value.ownBlock], by simp⟩, N1.out, U1.out, D1.out⟩
  case round =>
    obtain ⟨i, X, Ao, no, co, rfl, rfl, hi, hX, hO, hN, hU, hD⟩ := hrel
    obtain ⟨wo, hwo⟩ : ∃ W, W = wr := ⟨_, rfl⟩
    rw [← hwo] at hO hN hU hD ⊢
    clear hwo
    obtain ⟨K, hK⟩ : ∃ K, K = (entsL d L i).2 := ⟨_, rfl⟩
    rw [← hK] at hN
    have HX := Lib.hid hX
    have HO := Lib.hid hO
    have HNM := Lib.hid hN
    have HU := Lib.hid hU
    have HD := Lib.hid hD
    have HKE := Lib.hid hK
    clear hX hO hN hU hD hK
    have HI : Hid (i ≤ mn ∧ mn < 7) := Lib.hid ⟨hi, HMN.out.1⟩
    have hi0 : (0 : Int) ≤ i := by omega
    have hi9 : (i : Int) ≤ 7 := by have := HI.out; omega
    by_cases hlt : i < mn
    · have hlti : (i : Int) < mn := by omega
      have hML := HNM.out.lt
      go_upto_region 8 with fail
      obtain ⟨e0, he0⟩ : ∃ e : EntL, e = { id := 101 + (i : Int), cls := 0, fam := 0, picks := [], wishes := [], groups := [] } := ⟨_, rfl⟩
      obtain ⟨w3, hw3⟩ : ∃ W, W = wo.alloc (.cells (ecells e0 (.slice none 0 0) (.slice none 0 0) (.slice none 0 0)).toArray 46) := ⟨_, rfl⟩
      change Code.wp _ _ _ _ (wo.alloc (.cells (ecells { id := 101 + (i : Int), cls := 0, fam := 0, picks := [], wishes := [], groups := [] } (.slice none 0 0) (.slice none 0 0) (.slice none 0 0)).toArray 46))
      rw [← he0, ← hw3]
      have E3 : Hid (EdAt wo w3 (w.heap.size + 1) (.slice A nl c) L (K) e0 (.slice none 0 0) (.slice none 0 0) (.slice none 0 0)) := Lib.hid (by
        have hk : Kp wo w3 := by rw [hw3]; exact (Upd.refl _ wo).alloc _
        refine ⟨hk.mono (fun _ _ h => h.elim), Row.upd HNM.out hk id, ⟨by rw [hw3]; exact Row.new _ _ _, Nat.le_refl _, ?_, ?_, ?_, by simp [Value.ownBlock], by simp [Value.ownBlock], by simp [Value.ownBlock], by simp [Value.ownBlock]⟩, hML⟩ <;> (rw [he0]; exact Sl.nil_ _ _ _))
      have HE0 := Lib.hid he0
      have HW3 : Hid (∀ W K e xp xw xg, EdAt wo W (w.heap.size + 1) (.slice A nl c) L (K) e xp xw xg → Upd (fun b => w.heap.size ≤ b) w W ∧ Row W w.heap.size 30 (dcells d (.slice A1 n1 c1) (.slice A2 n2 c2) (.slice A3 n3 c3) (.slice A4 n4 c4))) := Lib.hid (fun W K e xp xw xg h => ⟨(h.since HU.out (by omega)).mono (fun _ _ h => h.elim), h.row HD.out (by omega)⟩)
      have NW : Hid (∀ W K e xp xw xg n, EdAt wo W (w.heap.size + 1) (.slice A nl c) L (K) e xp xw xg → 0 < n → n ≤ 1000000 → Calls Try.prog 28 #[.pointer (some ⟨w.heap.size + 1, 0, none⟩), .int .i64 n] W (NextF (w.heap.size + 1) (.slice A nl c) L K n W)) := Lib.hid (fun W K e xp xw xg n h h0 h1 => NX.out W K n (HW3.out W K e xp xw xg h).1 h.num h0 h1)
      clear hw3 he0 hML
      obtain ⟨kd, hkd⟩ : ∃ x, x = d.kind := ⟨_, rfl⟩
      have d1 : w3.cell? ⟨w.heap.size, 1, none⟩ = some (.int .i64 kd) := by rw [hkd]; exact (HW3.out w3 K e0 _ _ _ E3.out).2.cell 1
      have HKD := Lib.hid hkd
      clear hkd
      go_upto_block 2 with fail
      clear d1
      go_cut [] from 22 to 147 (fun wx => ∃ xp xw xg, EdAt wo wx (w.heap.size + 1) (.slice A nl c) L ((oneE d L K i).2) (oneE d L K i).1 xp xw xg)
      case first =>
        have hk := HG.out.kind
        rw [← HKD.out] at hk
        rcases hk with rfl | rfl | rfl
        · obtain ⟨⟨a1, a2, a3, a4, a5⟩, _⟩ := HG.out.k1 HKD.out.symm
          obtain ⟨po, hpo⟩ : ∃ x, d.pool = x := ⟨_, rfl⟩
          obtain ⟨pk, hpk⟩ : ∃ n : Nat, d.pick = n := ⟨d.pick.toNat, by omega⟩
          rw [hpo] at a1 a2 a5
          rw [hpk] at a3 a4 a5
          obtain ⟨r, hr⟩ : ∃ x, nextV L K (po - (pk : Int) + 1) = x := ⟨_, rfl⟩
          have hrb := nextV_bounds L K (n := po - (pk : Int) + 1) (by omega)
          rw [hr] at hrb
          have H4 := Lib.hid hr
          have hpkn : pk - 1 < pk := by omega
          have HONE : Hid (oneE d L K i = ({ id := 101 + (i : Int), cls := 0, fam := 0, picks := lotP d L K, wishes := [], groups := [] }, K + 2)) := Lib.hid (by unfold oneE; rw [if_pos HKD.out.symm])
          have HLOT : Hid (lotP d L K = if nextV L (K + 1) 2 = 1 ∧ 1 + r + ((pk : Int) - 1) < po then (runE (1 + r) pk).set (pk - 1) po else runE (1 + r) pk) := Lib.hid (by unfold lotP; rw [hpo, hpk, hr]; rfl)
          have HPO := Lib.hid hpo
          have HPK := Lib.hid hpk
          have HB : Hid ((2 ≤ po ∧ po ≤ 7) ∧ (1 ≤ pk ∧ pk ≤ 4) ∧ ((pk : Int) ≤ po) ∧ (0 ≤ r ∧ r < po - (pk : Int) + 1)) := Lib.hid ⟨⟨a1, a2⟩, ⟨by omega, by omega⟩, a5, hrb⟩
          have hrb1 := hrb.1
          have hrb2 := hrb.2
          clear hr hpo hpk hrb
          have d4 : w3.cell? ⟨w.heap.size, 4, none⟩ = some (.int .i64 po) := by rw [← HPO.out]; exact (HW3.out w3 K e0 _ _ _ E3.out).2.cell 4
          have d5 : w3.cell? ⟨w.heap.size, 5, none⟩ = some (.int .i64 (pk : Int)) := by rw [← HPK.out]; exact (HW3.out w3 K e0 _ _ _ E3.out).2.cell 5
          go_upto_region 11 with (go_at_call 28; show Calls _ _ _ w3 _; refine (NW.out w3 (K) e0 (.slice none 0 0) (.slice none 0 0) (.slice none 0 0) (po - (pk : Int) + 1) E3.out (by omega) (by omega)).mono ?_; rintro en w4 ⟨rfl, hr, hu⟩; rw [show nextV L (K) (po - (pk : Int) + 1) = r from H4.out]; have E4 := Lib.hid (E3.out.next hr hu); clear hr hu)
          clear d4 d5
          go_wp2_with (fail)
          go_loopw [11] (fun v wr => ∃ (k : Nat) (xp : Value), v = .int .i64 k ∧ k ≤ pk ∧ EdAt wo wr (w.heap.size + 1) (.slice A nl c) L (K + 1) { e0 with picks := runE (1 + r) k } xp (.slice none 0 0) (.slice none 0 0)) (fun v _ => pk - (intOf v).toNat)
          case atStart => exact ⟨0, (.slice none 0 0), rfl, Nat.zero_le _, by have h := E4.out; rw [show { e0 with picks := runE (1 + r) 0 } = e0 by rw [HE0.out]; rfl]; exact h⟩
          case round =>
            obtain ⟨k, xp, rfl, hk, hE⟩ := hrel
            have ER := Lib.hid hE
            clear hE
            obtain ⟨A5, i5, c5, e5⟩ : ∃ A n c, xp = .slice A n c := by obtain ⟨A, c, e, _⟩ := ER.out.at_.p.form; exact ⟨_, _, _, e⟩
            subst e5
            have hk0 : (0 : Int) ≤ k := by omega
            have hk9 : (k : Int) ≤ 4 := by omega
            have d5 : wr.cell? ⟨w.heap.size, 5, none⟩ = some (.int .i64 (pk : Int)) := by rw [← HPK.out]; exact (HW3.out wr _ _ _ _ _ ER.out).2.cell 5
            by_cases hlk : k < pk
            · have hlki : (k : Int) < pk := by omega
              have e3 : wr.cell? ⟨wo.heap.size, 3, none⟩ = some (.slice A5 i5 c5) := ER.out.at_.row.cell 3
              have hDl := ER.out.at_.row.lt
              have hDn : wo.heap.size ≠ wr.heap.size := Nat.ne_of_lt hDl
              have HLEN : Hid ((runE (1 + r) k).length ≤ 4) := Lib.hid (by rw [runE_len]; omega)
              go_wp2_with (at_builtin; refine wpList_append_sl rfl (.tmp 50) (.tmp 54) _ rfl T_ints (v := .slice A5 i5 c5) rfl (ER.out.at_.far ((Upd.refl _ wr).alloc _)).p (m := 1) (news := [.int .i64 (1 + r + (k : Int))]) rfl (Rd.of_new (cs := #[.int .i64 (1 + r + (k : Int))]) (Row.new_at _ _ _ _ rfl) rfl) (by intro u hu; simp at hu; subst hu; rfl) (by have := HLEN.out; show (runE (1 + r) k).length + 1 ≤ maxLen; unfold maxLen; omega) (by have := HLEN.out; show ((runE (1 + r) k).length + 1) * 8 ≤ _; omega) ?_; intro v9 w9 hA; obtain ⟨A9, c9, rfl, _⟩ := hA.sl.form; have HH := EdAt.addP (xs := [1 + r + (k : Int)]) ER.out ((Upd.refl _ wr).alloc _) rfl rfl hA; have E9 := Lib.hid HH.2; clear e3; have e3 := HH.1.cell 3; have f3 := HH.1.frozen (j := 3) (by simp [ecells]); clear hA HH)
              go_roundw
              all_goals (first
                | exact ⟨k + 1, _, by go_num, by omega, by rw [runE_succ]; exact E9.out⟩
                | ((repeat apply Exists.intro); exact ⟨⟨k + 1, _, by go_num, by omega, by rw [runE_succ]; exact E9.out⟩, rfl⟩)
                | (simp [intOf]; omega))
            · obtain rfl : k = pk := by omega
              obtain ⟨w5, hw5⟩ : ∃ W, W = wr := ⟨_, rfl⟩
              rw [← hw5] at ER d5 ⊢
              clear hw5
              obtain ⟨b, off, e1⟩ : ∃ b off, A5 = some ⟨b, off, none⟩ := by
                have hp := ER.out.at_.p
                rcases hp.2 with ⟨e, h0⟩ | ⟨g, off, cap, cs, e, _⟩
                · exfalso
                  have h1 : (runE (1 + r) k).length = 0 := h0
                  rw [runE_len] at h1
                  omega
                · cases e; exact ⟨_, _, rfl⟩
              subst e1
              have e2 : i5 = k := by
                have hp := ER.out.at_.p.rd
                obtain ⟨_, A, c, e, _⟩ := hp
                cases e
                exact runE_len _ _
              subst e2
              have hsl : Sl w5 (.slice (some ⟨b, off, none⟩) i5 c5) 3 1 i5 ((runE (1 + r) i5).flatMap numE) := by have h := ER.out.at_.p; rw [show ({ e0 with picks := runE (1 + r) i5 } : EntL).picks.length = i5 from runE_len _ _] at h; exact h
              have HSL := Lib.hid hsl
              clear hsl
              obtain ⟨j, hj⟩ : ∃ j : Nat, j + 1 = i5 := ⟨i5 - 1, by have := HB.out.2.1; omega⟩
              have hj0 : (0 : Int) ≤ (j : Int) := by omega
              have hji : (j : Int) < (i5 : Int) := by omega
              have hji2 : ((i5 : Int) - 1) = (j : Int) := by omega
              have hjw : IntKind.i64.wrap ((i5 : Int) - 1) = (j : Int) := by rw [hji2]; exact IntWalk.i64_in _ (by omega)
              have HJ : Hid (i5 - 1 = j ∧ j < i5 ∧ ((i5 : Int) - 1) = (j : Int)) := Lib.hid ⟨by omega, by omega, hji2⟩
              clear hj hji2
              obtain ⟨fl, hfl⟩ : ∃ x, nextV L (K + 1) 2 = x := ⟨_, rfl⟩
              have hflb := nextV_bounds L (K + 1) (n := 2) (by decide)
              rw [hfl] at hflb HLOT
              have H6 := Lib.hid hfl
              have HFB := Lib.hid hflb
              clear hfl hflb
              have e3 : w5.cell? ⟨wo.heap.size, 3, none⟩ = some (.slice (some ⟨b, off, none⟩) i5 c5) := ER.out.at_.row.cell 3
              have d5' : w5.cell? ⟨w.heap.size, 5, none⟩ = some (.int .i64 (i5 : Int)) := by rw [← HPK.out]; exact (HW3.out w5 _ _ _ _ _ ER.out).2.cell 5
              have d4' : w5.cell? ⟨w.heap.size, 4, none⟩ = some (.int .i64 po) := by rw [← HPO.out]; exact (HW3.out w5 _ _ _ _ _ ER.out).2.cell 4
              have cj : w5.cell? ⟨b, off + j, none⟩ = some (.int .i64 (1 + r + (j : Int))) := ER.out.at_.p.at1 (runE_at (by have := HJ.out.2.1; exact this))
              go_upto_region 15 with fail
              have nEB : wo.heap.size ≠ w.heap.size + 1 := by have := ER.out.hM; omega
              have nDB : w.heap.size ≠ w.heap.size + 1 := by omega
              have nB : b ≠ w.heap.size + 1 := fun ex => HSL.out.ne_row ER.out.num (by decide) (by rw [← ex]; rfl)
              by_cases hf1 : fl = 1
              · subst hf1
                obtain ⟨lt, hlt'⟩ : ∃ b : Bool, decide (1 + r + (j : Int) < po) = b := ⟨_, rfl⟩
                have HLT := Lib.hid hlt'
                clear hlt'
                skip
                refine wp_region_seq (R := (fun a b => Upd (· = w.heap.size + 1) a b)) (I := (fun n W => EdAt wo W (w.heap.size + 1) (.slice A nl c) L (K + 1 + n) { e0 with picks := runE (1 + r) i5 } (.slice (some ⟨b, off, none⟩) i5 c5) (.slice none 0 0) (.slice none 0 0))) (dl := [57, 58, 59, 60, 61, 62, 63, 64, 65, 66, 67, 68, 69, 70, 71]) (spec := (fun t v w' => match t with | 57 => v = .pointer (some ⟨w.heap.size + 1, 0, none⟩) | 58 => v = .int .i64 1 | 59 => v = .bool true | 60 => v = .bool true | 61 => v = .pointer (some ⟨wo.heap.size, 3, none⟩) | 62 => v = .slice (some ⟨b, off, none⟩) i5 c5 | 63 => v = .pointer (some ⟨w.heap.size, 5, none⟩) | 64 => v = .int .i64 (i5 : Int) | 65 => v = .int .i64 (j : Int) | 66 => v = .pointer (some ⟨b, off + j, none⟩) | 67 => v = .int .i64 (1 + r + (j : Int)) | 68 => v = .pointer (some ⟨w.heap.size, 4, none⟩) | 69 => v = .int .i64 po | 70 => v = .bool lt | 71 => v = .bool lt | _ => True)) (by kernel_rfl) (fun w => Upd.refl _ w) (fun a b c h k => Upd.trans h k (fun _ _ e => e)) ((Upd.refl _ w5).drew) (ER.out.far ((Upd.refl _ w5).drew)) [1] [(none, []), (some 0, [57]), (none, [58]), (none, [59]), (none, [60]), (none, [60, 61]), (none, [60]), (none, [60, 63]), (none, [60, 64]), (none, [60, 62, 65]), (none, [60, 66]), (none, [60]), (none, [60, 68]), (none, [60, 67, 69]), (none, [60, 70])] (by kernel_rfl) (by kernel_rfl) rfl ?_ ⟨?_, ?_, ?_, ?_, ?_, ?_, ?_, ?_, ?_, ?_, ?_, ?_, ?_, ?_, ?_, trivial⟩ ?_
                · intro t v w1' w2' h hk
                  revert h
                  split <;> intro h <;> exact h
                · intro n a' w' hc hs hk hI hd
                  have i5 : a'.eval (.tmp 5) = .pointer (some ⟨w.heap.size + 1, 0, none⟩) := hs.keep 5 (by decide)
                  rw [if_pos (by rfl)]
                  rw [eval_get] at i5
                  refine leavesI_value (v := .pointer (some ⟨w.heap.size + 1, 0, none⟩)) (w' := w') ?_ ((fun w => Upd.refl _ w) _) hI (fun d h => by cases h; rfl)
                  clear hI hk hd hc
                  go_simp
                · intro n a' w' hc hs hk hI hd
                  have i57 : a'.eval (.tmp 57) = .pointer (some ⟨w.heap.size + 1, 0, none⟩) := hd 57 (by simp)
                  rw [if_pos (by rfl)]
                  rw [eval_get] at i57
                  obtain rfl := hc 0 rfl
                  refine leavesI_call (f := 28) (args := #[.pointer (some ⟨w.heap.size + 1, 0, none⟩), .int .i64 2]) ?_ ?_
                  · clear hI hk hd
                    go_simp
                  · exact (NW.out w' (K + 1) _ _ _ _ 2 hI (by decide) (by decide)).mono (by rintro en w'' ⟨rfl, hr, hu⟩; exact ⟨_, rfl, ⟨hu, hI.next hr hu⟩, fun d h => by cases h; exact congrArg (Value.int .i64) H6.out⟩)
                · intro n a' w' hc hs hk hI hd
                  have i58 : a'.eval (.tmp 58) = .int .i64 1 := hd 58 (by simp)
                  rw [if_pos (by rfl)]
                  rw [eval_get] at i58
                  refine leavesI_value (v := .bool true) (w' := w') ?_ ((fun w => Upd.refl _ w) _) hI (fun d h => by cases h; rfl)
                  clear hI hk hd hc
                  go_simp
                · intro n a' w' hc hs hk hI hd
                  have i59 : a'.eval (.tmp 59) = .bool true := hd 59 (by simp)
                  rw [if_pos (by rfl)]
                  rw [eval_get] at i59
                  refine leavesI_value (v := .bool true) (w' := w') ?_ ((fun w => Upd.refl _ w) _) hI (fun d h => by cases h; rfl)
                  clear hI hk hd hc
                  go_simp
                · intro n a' w' hc hs hk hI hd
                  have i60 : a'.eval (.tmp 60) = .bool true := hd 60 (by simp)
                  have i9 : a'.eval (.tmp 9) = .pointer (some ⟨wo.heap.size, 0, none⟩) := hs.keep 9 (by decide)
                  rw [if_pos (by unfold Region.wanted; simp only []; rw [yielded_of (d := 60) rfl i60]; rfl)]
                  rw [eval_get] at i60 i9
                  refine leavesI_value (v := .pointer (some ⟨wo.heap.size, 3, none⟩)) (w' := w') ?_ ((fun w => Upd.refl _ w) _) hI (fun d h => by cases h; rfl)
                  clear hI hk hd hc
                  go_simp
                · intro n a' w' hc hs hk hI hd
                  have i60 : a'.eval (.tmp 60) = .bool true := hd 60 (by simp)
                  have i61 : a'.eval (.tmp 61) = .pointer (some ⟨wo.heap.size, 3, none⟩) := hd 61 (by simp)
                  have x := (Upd.cell hk (World.block_lt_of_cell? _ _ e3) nEB).trans e3
                  rw [if_pos (by unfold Region.wanted; simp only []; rw [yielded_of (d := 60) rfl i60]; rfl)]
                  rw [eval_get] at i60 i61
                  refine leavesI_value (v := .slice (some ⟨b, off, none⟩) i5 c5) (w' := w') ?_ ((fun w => Upd.refl _ w) _) hI (fun d h => by cases h; rfl)
                  clear hI hk hd hc
                  go_simp
                · intro n a' w' hc hs hk hI hd
                  have i60 : a'.eval (.tmp 60) = .bool true := hd 60 (by simp)
                  have i2 : a'.eval (.tmp 2) = .pointer (some ⟨w.heap.size, 0, none⟩) := hs.keep 2 (by decide)
                  rw [if_pos (by unfold Region.wanted; simp only []; rw [yielded_of (d := 60) rfl i60]; rfl)]
                  rw [eval_get] at i60 i2
                  refine leavesI_value (v := .pointer (some ⟨w.heap.size, 5, none⟩)) (w' := w') ?_ ((fun w => Upd.refl _ w) _) hI (fun d h => by cases h; rfl)
                  clear hI hk hd hc
                  go_simp
                · intro n a' w' hc hs hk hI hd
                  have i60 : a'.eval (.tmp 60) = .bool true := hd 60 (by simp)
                  have i63 : a'.eval (.tmp 63) = .pointer (some ⟨w.heap.size, 5, none⟩) := hd 63 (by simp)
                  have x := (Upd.cell hk (World.block_lt_of_cell? _ _ d5') nDB).trans d5'
                  rw [if_pos (by unfold Region.wanted; simp only []; rw [yielded_of (d := 60) rfl i60]; rfl)]
                  rw [eval_get] at i60 i63
                  refine leavesI_value (v := .int .i64 (i5 : Int)) (w' := w') ?_ ((fun w => Upd.refl _ w) _) hI (fun d h => by cases h; rfl)
                  clear hI hk hd hc
                  go_simp
                · intro n a' w' hc hs hk hI hd
                  have i60 : a'.eval (.tmp 60) = .bool true := hd 60 (by simp)
                  have i64 : a'.eval (.tmp 64) = .int .i64 (i5 : Int) := hd 64 (by simp)
                  rw [if_pos (by unfold Region.wanted; simp only []; rw [yielded_of (d := 60) rfl i60]; rfl)]
                  rw [eval_get] at i60 i64
                  refine leavesI_value (v := .int .i64 (j : Int)) (w' := w') ?_ ((fun w => Upd.refl _ w) _) hI (fun d h => by cases h; rfl)
                  clear hI hk hd hc
                  go_simp
                · intro n a' w' hc hs hk hI hd
                  have i60 : a'.eval (.tmp 60) = .bool true := hd 60 (by simp)
                  have i62 : a'.eval (.tmp 62) = .slice (some ⟨b, off, none⟩) i5 c5 := hd 62 (by simp)
                  have i65 : a'.eval (.tmp 65) = .int .i64 (j : Int) := hd 65 (by simp)
                  rw [if_pos (by unfold Region.wanted; simp only []; rw [yielded_of (d := 60) rfl i60]; rfl)]
                  rw [eval_get] at i60 i62 i65
                  refine leavesI_value (v := .pointer (some ⟨b, off + j, none⟩)) (w' := w') ?_ ((fun w => Upd.refl _ w) _) hI (fun d h => by cases h; rfl)
                  clear hI hk hd hc
                  go_simp
                · intro n a' w' hc hs hk hI hd
                  have i60 : a'.eval (.tmp 60) = .bool true := hd 60 (by simp)
                  have i66 : a'.eval (.tmp 66) = .pointer (some ⟨b, off + j, none⟩) := hd 66 (by simp)
                  have x := (Upd.cell hk (World.block_lt_of_cell? _ _ cj) nB).trans cj
                  rw [if_pos (by unfold Region.wanted; simp only []; rw [yielded_of (d := 60) rfl i60]; rfl)]
                  rw [eval_get] at i60 i66
                  refine leavesI_value (v := .int .i64 (1 + r + (j : Int))) (w' := w') ?_ ((fun w => Upd.refl _ w) _) hI (fun d h => by cases h; rfl)
                  clear hI hk hd hc
                  go_simp
                · intro n a' w' hc hs hk hI hd
                  have i60 : a'.eval (.tmp 60) = .bool true := hd 60 (by simp)
                  have i2 : a'.eval (.tmp 2) = .pointer (some ⟨w.heap.size, 0, none⟩) := hs.keep 2 (by decide)
                  rw [if_pos (by unfold Region.wanted; simp only []; rw [yielded_of (d := 60) rfl i60]; rfl)]
                  rw [eval_get] at i60 i2
                  refine leavesI_value (v := .pointer (some ⟨w.heap.size, 4, none⟩)) (w' := w') ?_ ((fun w => Upd.refl _ w) _) hI (fun d h => by cases h; rfl)
                  clear hI hk hd hc
                  go_simp
                · intro n a' w' hc hs hk hI hd
                  have i60 : a'.eval (.tmp 60) = .bool true := hd 60 (by simp)
                  have i68 : a'.eval (.tmp 68) = .pointer (some ⟨w.heap.size, 4, none⟩) := hd 68 (by simp)
                  have x := (Upd.cell hk (World.block_lt_of_cell? _ _ d4') nDB).trans d4'
                  rw [if_pos (by unfold Region.wanted; simp only []; rw [yielded_of (d := 60) rfl i60]; rfl)]
                  rw [eval_get] at i60 i68
                  refine leavesI_value (v := .int .i64 po) (w' := w') ?_ ((fun w => Upd.refl _ w) _) hI (fun d h => by cases h; rfl)
                  clear hI hk hd hc
                  go_simp
                · intro n a' w' hc hs hk hI hd
                  have i60 : a'.eval (.tmp 60) = .bool true := hd 60 (by simp)
                  have i67 : a'.eval (.tmp 67) = .int .i64 (1 + r + (j : Int)) := hd 67 (by simp)
                  have i69 : a'.eval (.tmp 69) = .int .i64 po := hd 69 (by simp)
                  have hl := HLT.out
                  rw [if_pos (by unfold Region.wanted; simp only []; rw [yielded_of (d := 60) rfl i60]; rfl)]
                  rw [eval_get] at i60 i67 i69
                  refine leavesI_value (v := .bool lt) (w' := w') ?_ ((fun w => Upd.refl _ w) _) hI (fun d h => by cases h; rfl)
                  clear hI hk hd hc
                  go_simp
                · intro n a' w' hc hs hk hI hd
                  have i60 : a'.eval (.tmp 60) = .bool true := hd 60 (by simp)
                  have i70 : a'.eval (.tmp 70) = .bool lt := hd 70 (by simp)
                  rw [if_pos (by rfl)]
                  rw [eval_get] at i60 i70
                  refine leavesI_value (v := .bool lt) (w' := w') ?_ ((fun w => Upd.refl _ w) _) hI (fun d h => by cases h; rfl)
                  clear hI hk hd hc
                  go_simp
                · intro a' w' hs hk hI hd
                  have h71 : a'.eval (.tmp 71) = .bool lt := hd 14 _ 71 rfl rfl
                  have E6 : Hid (EdAt wo w' (w.heap.size + 1) (.slice A nl c) L (K + 2) { e0 with picks := runE (1 + r) i5 } (.slice (some ⟨b, off, none⟩) i5 c5) (.slice none 0 0) (.slice none 0 0)) := Lib.hid hI
                  obtain ⟨w6, hw6⟩ : ∃ W, W = w' := ⟨_, rfl⟩
                  rw [← hw6] at E6 ⊢
                  show Exit.then _ _ Exit.normal a' w6
                  obtain ⟨f, hf⟩ := hs.lit
                  rw [hf]
                  have hf71 : f 71 = .bool lt := by rw [hf] at h71; exact h71
                  clear hf h71 hw6 hk hs hd hI e3 d5' d4' cj
                  simp only [pickS, Nat.reduceAdd, List.contains_cons, List.contains_nil, Nat.reduceBEq, Bool.or_false, Bool.false_or, Bool.or_true, Bool.true_or, Bool.false_eq_true, if_true, if_false, hf71]
                  cases lt with
                  | true =>
                    have e3 : w6.cell? ⟨wo.heap.size, 3, none⟩ = some (.slice (some ⟨b, off, none⟩) i5 c5) := E6.out.at_.row.cell 3
                    have d5' : w6.cell? ⟨w.heap.size, 5, none⟩ = some (.int .i64 (i5 : Int)) := by rw [← HPK.out]; exact (HW3.out w6 _ _ _ _ _ E6.out).2.cell 5
                    have d4' : w6.cell? ⟨w.heap.size, 4, none⟩ = some (.int .i64 po) := by rw [← HPO.out]; exact (HW3.out w6 _ _ _ _ _ E6.out).2.cell 4
                    have hji2 : ((i5 : Int) - 1) = (j : Int) := HJ.out.2.2
                    have hsl6 : Sl w6 (.slice (some ⟨b, off, none⟩) i5 c5) 3 1 i5 ((runE (1 + r) i5).flatMap numE) := by have h := E6.out.at_.p; rw [show ({ e0 with picks := runE (1 + r) i5 } : EntL).picks.length = i5 from runE_len _ _] at h; exact h
                    obtain ⟨⟨u, hu⟩, hfz, _⟩ := hsl6.cell1 HJ.out.2.1
                    clear hsl6
                    go_wp2_with fail
                    go_meet
                    exact ⟨_, _, _, by rw [HONE.out]; have h := E6.out.pick (runE_len _ _).symm HJ.out.2.1 po; rw [HE0.out] at h; show EdAt _ _ _ _ _ _ _ _ _ _; rw [HLOT.out, if_pos ⟨by trivial, by have := of_decide_eq_true HLT.out; have := HJ.out.2.2; omega⟩, HJ.out.1]; exact h⟩
                  | false =>
                    go_wp2_with fail
                    go_meet
                    exact ⟨_, _, _, by rw [HONE.out]; have h := E6.out; rw [HE0.out] at h; show EdAt _ _ _ _ _ _ _ _ _ _; rw [HLOT.out, if_neg (by rintro ⟨_, h2⟩; have := of_decide_eq_false HLT.out; have := HJ.out.2.2; omega)]; exact h⟩
              · have hf0 : fl = 0 := by have := HFB.out; omega
                subst hf0
                clear hf1
                refine wp_region_seq (R := (fun a b => Upd (· = w.heap.size + 1) a b)) (I := (fun n W => EdAt wo W (w.heap.size + 1) (.slice A nl c) L (K + 1 + n) { e0 with picks := runE (1 + r) i5 } (.slice (some ⟨b, off, none⟩) i5 c5) (.slice none 0 0) (.slice none 0 0))) (dl := [57, 58, 59, 60, 61, 62, 63, 64, 65, 66, 67, 68, 69, 70, 71]) (spec := (fun t v w' => match t with | 57 => v = .pointer (some ⟨w.heap.size + 1, 0, none⟩) | 58 => v = .int .i64 0 | 59 => v = .bool false | 60 => v = .bool false | 61 => True | 62 => True | 63 => True | 64 => True | 65 => True | 66 => True | 67 => True | 68 => True | 69 => True | 70 => True | 71 => v = .bool false | _ => True)) (by kernel_rfl) (fun w => Upd.refl _ w) (fun a b c h k => Upd.trans h k (fun _ _ e => e)) ((Upd.refl _ w5).drew) (ER.out.far ((Upd.refl _ w5).drew)) [1] [(none, []), (some 0, [57]), (none, [58]), (none, [59]), (none, [60]), (none, [60]), (none, [60]), (none, [60]), (none, [60]), (none, [60]), (none, [60]), (none, [60]), (none, [60]), (none, [60]), (none, [60])] (by kernel_rfl) (by kernel_rfl) rfl ?_ ⟨?_, ?_, ?_, ?_, ?_, ?_, ?_, ?_, ?_, ?_, ?_, ?_, ?_, ?_, ?_, trivial⟩ ?_
                · intro t v w1' w2' h hk
                  revert h
                  split <;> intro h <;> exact h
                · intro n a' w' hc hs hk hI hd
                  have i5 : a'.eval (.tmp 5) = .pointer (some ⟨w.heap.size + 1, 0, none⟩) := hs.keep 5 (by decide)
                  rw [if_pos (by rfl)]
                  rw [eval_get] at i5
                  refine leavesI_value (v := .pointer (some ⟨w.heap.size + 1, 0, none⟩)) (w' := w') ?_ ((fun w => Upd.refl _ w) _) hI (fun d h => by cases h; rfl)
                  clear hI hk hd hc
                  go_simp
                · intro n a' w' hc hs hk hI hd
                  have i57 : a'.eval (.tmp 57) = .pointer (some ⟨w.heap.size + 1, 0, none⟩) := hd 57 (by simp)
                  rw [if_pos (by rfl)]
                  rw [eval_get] at i57
                  obtain rfl := hc 0 rfl
                  refine leavesI_call (f := 28) (args := #[.pointer (some ⟨w.heap.size + 1, 0, none⟩), .int .i64 2]) ?_ ?_
                  · clear hI hk hd
                    go_simp
                  · exact (NW.out w' (K + 1) _ _ _ _ 2 hI (by decide) (by decide)).mono (by rintro en w'' ⟨rfl, hr, hu⟩; exact ⟨_, rfl, ⟨hu, hI.next hr hu⟩, fun d h => by cases h; exact congrArg (Value.int .i64) H6.out⟩)
                · intro n a' w' hc hs hk hI hd
                  have i58 : a'.eval (.tmp 58) = .int .i64 0 := hd 58 (by simp)
                  rw [if_pos (by rfl)]
                  rw [eval_get] at i58
                  refine leavesI_value (v := .bool false) (w' := w') ?_ ((fun w => Upd.refl _ w) _) hI (fun d h => by cases h; rfl)
                  clear hI hk hd hc
                  go_simp
                · intro n a' w' hc hs hk hI hd
                  have i59 : a'.eval (.tmp 59) = .bool false := hd 59 (by simp)
                  rw [if_pos (by rfl)]
                  rw [eval_get] at i59
                  refine leavesI_value (v := .bool false) (w' := w') ?_ ((fun w => Upd.refl _ w) _) hI (fun d h => by cases h; rfl)
                  clear hI hk hd hc
                  go_simp
                · intro n a' w' hc hs hk hI hd
                  have i60 : a'.eval (.tmp 60) = .bool false := hd 60 (by simp)
                  rw [if_neg (by unfold Region.wanted; simp only []; rw [yielded_of (d := 60) rfl i60]; decide)]
                  exact ⟨rfl, fun d h => by cases h; trivial⟩
                · intro n a' w' hc hs hk hI hd
                  have i60 : a'.eval (.tmp 60) = .bool false := hd 60 (by simp)
                  rw [if_neg (by unfold Region.wanted; simp only []; rw [yielded_of (d := 60) rfl i60]; decide)]
                  exact ⟨rfl, fun d h => by cases h; trivial⟩
                · intro n a' w' hc hs hk hI hd
                  have i60 : a'.eval (.tmp 60) = .bool false := hd 60 (by simp)
                  rw [if_neg (by unfold Region.wanted; simp only []; rw [yielded_of (d := 60) rfl i60]; decide)]
                  exact ⟨rfl, fun d h => by cases h; trivial⟩
                · intro n a' w' hc hs hk hI hd
                  have i60 : a'.eval (.tmp 60) = .bool false := hd 60 (by simp)
                  rw [if_neg (by unfold Region.wanted; simp only []; rw [yielded_of (d := 60) rfl i60]; decide)]
                  exact ⟨rfl, fun d h => by cases h; trivial⟩
                · intro n a' w' hc hs hk hI hd
                  have i60 : a'.eval (.tmp 60) = .bool false := hd 60 (by simp)
                  rw [if_neg (by unfold Region.wanted; simp only []; rw [yielded_of (d := 60) rfl i60]; decide)]
                  exact ⟨rfl, fun d h => by cases h; trivial⟩
                · intro n a' w' hc hs hk hI hd
                  have i60 : a'.eval (.tmp 60) = .bool false := hd 60 (by simp)
                  rw [if_neg (by unfold Region.wanted; simp only []; rw [yielded_of (d := 60) rfl i60]; decide)]
                  exact ⟨rfl, fun d h => by cases h; trivial⟩
                · intro n a' w' hc hs hk hI hd
                  have i60 : a'.eval (.tmp 60) = .bool false := hd 60 (by simp)
                  rw [if_neg (by unfold Region.wanted; simp only []; rw [yielded_of (d := 60) rfl i60]; decide)]
                  exact ⟨rfl, fun d h => by cases h; trivial⟩
                · intro n a' w' hc hs hk hI hd
                  have i60 : a'.eval (.tmp 60) = .bool false := hd 60 (by simp)
                  rw [if_neg (by unfold Region.wanted; simp only []; rw [yielded_of (d := 60) rfl i60]; decide)]
                  exact ⟨rfl, fun d h => by cases h; trivial⟩
                · intro n a' w' hc hs hk hI hd
                  have i60 : a'.eval (.tmp 60) = .bool false := hd 60 (by simp)
                  rw [if_neg (by unfold Region.wanted; simp only []; rw [yielded_of (d := 60) rfl i60]; decide)]
                  exact ⟨rfl, fun d h => by cases h; trivial⟩
                · intro n a' w' hc hs hk hI hd
                  have i60 : a'.eval (.tmp 60) = .bool false := hd 60 (by simp)
                  rw [if_neg (by unfold Region.wanted; simp only []; rw [yielded_of (d := 60) rfl i60]; decide)]
                  exact ⟨rfl, fun d h => by cases h; trivial⟩
                · intro n a' w' hc hs hk hI hd
                  have i60 : a'.eval (.tmp 60) = .bool false := hd 60 (by simp)
                  rw [if_pos (by rfl)]
                  rw [eval_get] at i60
                  refine leavesI_value (v := .bool false) (w' := w') ?_ ((fun w => Upd.refl _ w) _) hI (fun d h => by cases h; rfl)
                  clear hI hk hd hc
                  go_simp
                · intro a' w' hs hk hI hd
                  have h71 : a'.eval (.tmp 71) = .bool false := hd 14 _ 71 rfl rfl
                  have E6 : Hid (EdAt wo w' (w.heap.size + 1) (.slice A nl c) L (K + 2) { e0 with picks := runE (1 + r) i5 } (.slice (some ⟨b, off, none⟩) i5 c5) (.slice none 0 0) (.slice none 0 0)) := Lib.hid hI
                  obtain ⟨w6, hw6⟩ : ∃ W, W = w' := ⟨_, rfl⟩
                  rw [← hw6] at E6 ⊢
                  show Exit.then _ _ Exit.normal a' w6
                  obtain ⟨f, hf⟩ := hs.lit
                  rw [hf]
                  have hf71 : f 71 = .bool false := by rw [hf] at h71; exact h71
                  clear hf h71 hw6 hk hs hd hI e3 d5' d4' cj
                  simp only [pickS, Nat.reduceAdd, List.contains_cons, List.contains_nil, Nat.reduceBEq, Bool.or_false, Bool.false_or, Bool.or_true, Bool.true_or, Bool.false_eq_true, if_true, if_false, hf71]
                  go_wp2_with fail
                  go_meet
                  exact ⟨_, _, _, by rw [HONE.out]; have h := E6.out; rw [HE0.out] at h; show EdAt _ _ _ _ _ _ _ _ _ _; rw [HLOT.out, if_neg (by rintro ⟨h1, _⟩; cases h1)]; exact h⟩
        · obtain ⟨hpl, ⟨a1, a2⟩, _⟩ := HG.out.k2 HKD.out.symm
          obtain ⟨p1, p2, _⟩ := places_facts hpl
          have hn2 := HN2.out
          rw [← hn2] at p1 p2
          obtain ⟨cl, hcl⟩ : ∃ x, d.cls = x := ⟨_, rfl⟩
          rw [hcl] at a1 a2
          obtain ⟨c0, hc0⟩ : ∃ x, nextV L K (cl + 1) = x := ⟨_, rfl⟩
          obtain ⟨f0, hf0⟩ : ∃ x, nextV L (K + 1) 4 = x := ⟨_, rfl⟩
          obtain ⟨fs, hfs⟩ : ∃ x : Nat, nextV L (K + 2) (n2 : Int) = x := ⟨(nextV L (K + 2) (n2 : Int)).toNat, by have := nextV_bounds L (K + 2) (n := (n2 : Int)) (by omega); omega⟩
          obtain ⟨ws, hws⟩ : ∃ x : Nat, nextV L (K + 3) ((n2 : Int) + 1) = x := ⟨(nextV L (K + 3) ((n2 : Int) + 1)).toNat, by have := nextV_bounds L (K + 3) (n := (n2 : Int) + 1) (by omega); omega⟩
          have b2 := nextV_bounds L (K + 2) (n := (n2 : Int)) (by omega)
          have b3 := nextV_bounds L (K + 3) (n := (n2 : Int) + 1) (by omega)
          rw [hfs] at b2
          rw [hws] at b3
          have HONE : Hid (oneE d L K i = ({ id := 101 + (i : Int), cls := c0, fam := f0, picks := [], wishes := balW d (fs : Int) ws, groups := [] }, K + 4)) := Lib.hid (by unfold oneE; rw [if_neg (by have := HKD.out; omega), if_pos HKD.out.symm, ← hn2, hcl, hc0, hf0, hfs, hws]; rfl)
          have H4 := Lib.hid hc0
          have H6 := Lib.hid hf0
          have H8 := Lib.hid hfs
          have H9 := Lib.hid hws
          have HCL := Lib.hid hcl
          have hfs1 : fs < n2 := by omega
          have hws1 : ws ≤ n2 := by omega
          clear hcl hc0 hf0 hfs hws b2 b3 hn2 hpl
          have hn0 : (n2 : Int) + 1 ≤ 13 := by omega
          have d9 : w3.cell? ⟨w.heap.size, 9, none⟩ = some (.int .i64 cl) := by rw [← HCL.out]; exact (HW3.out w3 K e0 _ _ _ E3.out).2.cell 9
          have kcl : IntKind.i64.wrap (cl + 1) = cl + 1 := IntWalk.i64_in _ (by omega)
          go_upto_region 19 with (go_at_call 28; show Calls _ _ _ w3 _; refine (NW.out w3 (K) e0 (.slice none 0 0) (.slice none 0 0) (.slice none 0 0) (cl + 1) E3.out (by omega) (by omega)).mono ?_; rintro en w4 ⟨rfl, hr, hu⟩; rw [show nextV L (K) (cl + 1) = c0 from H4.out]; have E4 := Lib.hid (E3.out.next hr hu); have g1 := E4.out.at_.row.cell 1; have f1 := E4.out.at_.row.frozen (j := 1) (by simp [ecells]); clear hr hu)
          clear d9 kcl g1 f1
          obtain ⟨w5, hw5⟩ : ∃ W, W = w4.setCell ⟨wo.heap.size, 1, none⟩ (.int .i64 c0) := ⟨_, rfl⟩
          rw [← hw5]
          have E5 : Hid (EdAt wo w5 (w.heap.size + 1) (.slice A nl c) L (K + 1) { e0 with cls := c0 } (.slice none 0 0) (.slice none 0 0) (.slice none 0 0)) := Lib.hid (by rw [hw5]; exact E4.out.set 1 _ rfl rfl rfl rfl)
          clear hw5
          go_upto_region 20 with (go_at_call 28; show Calls _ _ _ w5 _; refine (NW.out w5 (K + 1) { e0 with cls := c0 } (.slice none 0 0) (.slice none 0 0) (.slice none 0 0) (4) E5.out (by decide) (by decide)).mono ?_; rintro en w6 ⟨rfl, hr, hu⟩; rw [show nextV L (K + 1) (4) = f0 from H6.out]; have E6 := Lib.hid (E5.out.next hr hu); have g2 := E6.out.at_.row.cell 2; have f2 := E6.out.at_.row.frozen (j := 2) (by simp [ecells]); clear hr hu)
          clear g2 f2
          obtain ⟨w7, hw7⟩ : ∃ W, W = w6.setCell ⟨wo.heap.size, 2, none⟩ (.int .i64 f0) := ⟨_, rfl⟩
          rw [← hw7]
          have E7 : Hid (EdAt wo w7 (w.heap.size + 1) (.slice A nl c) L (K + 2) { e0 with cls := c0, fam := f0 } (.slice none 0 0) (.slice none 0 0) (.slice none 0 0)) := Lib.hid (by rw [hw7]; exact E6.out.set 2 _ rfl rfl rfl rfl)
          clear hw7
          have d8 : w7.cell? ⟨w.heap.size, 8, none⟩ = some (.slice A2 n2 c2) := (HW3.out w7 _ _ _ _ _ E7.out).2.cell 8
          go_upto_region 21 with (go_at_call 28; show Calls _ _ _ w7 _; refine (NW.out w7 (K + 2) { e0 with cls := c0, fam := f0 } (.slice none 0 0) (.slice none 0 0) (.slice none 0 0) ((n2 : Int)) E7.out (by omega) (by omega)).mono ?_; rintro en w8 ⟨rfl, hr, hu⟩; rw [show nextV L (K + 2) ((n2 : Int)) = (fs : Int) from H8.out]; have E8 := Lib.hid (E7.out.next hr hu); clear d8; have d8 : w8.cell? ⟨w.heap.size, 8, none⟩ = some (.slice A2 n2 c2) := (HW3.out w8 _ _ _ _ _ E8.out).2.cell 8; clear hr hu)
          go_upto_region 22 with (go_at_call 28; show Calls _ _ _ w8 _; refine (NW.out w8 (K + 2 + 1) { e0 with cls := c0, fam := f0 } (.slice none 0 0) (.slice none 0 0) (.slice none 0 0) ((n2 : Int) + 1) E8.out (by omega) (by omega)).mono ?_; rintro en w9 ⟨rfl, hr, hu⟩; rw [show nextV L (K + 2 + 1) ((n2 : Int) + 1) = (ws : Int) from H9.out]; have E9 := Lib.hid (E8.out.next hr hu); clear hr hu)
          clear d8
          go_wp2_with (fail)
          go_loopw [14] (fun v wr => ∃ (k : Nat) (xw : Value), v = .int .i64 k ∧ k ≤ ws ∧ EdAt wo wr (w.heap.size + 1) (.slice A nl c) L (K + 4) { e0 with cls := c0, fam := f0, wishes := balW d (fs : Int) k } (.slice none 0 0) xw (.slice none 0 0)) (fun v _ => ws - (intOf v).toNat)
          case atStart => exact ⟨0, (.slice none 0 0), rfl, Nat.zero_le _, by have h := E9.out; rw [show { e0 with cls := c0, fam := f0, wishes := balW d (fs : Int) 0 } = ({ e0 with cls := c0, fam := f0 } : EntL) by rw [HE0.out]; rfl]; exact h⟩
          case round =>
            obtain ⟨k, xw, rfl, hk, hE⟩ := hrel
            have ER := Lib.hid hE
            clear hE
            obtain ⟨A5, i5, c5, e5⟩ : ∃ A n c, xw = .slice A n c := by obtain ⟨A, c, e, _⟩ := ER.out.at_.wi.form; exact ⟨_, _, _, e⟩
            subst e5
            have hk0 : (0 : Int) ≤ k := by omega
            have hk9 : (k : Int) ≤ 12 := by omega
            by_cases hlk : k < ws
            · have hlki : (k : Int) < ws := by omega
              obtain ⟨ix, hix⟩ : ∃ m, (fs + k) % n2 = m := ⟨_, rfl⟩
              have hixl : ix < n2 := by rw [← hix]; exact Nat.mod_lt _ (by omega)
              have htm : ((fs : Int) + (k : Int)).tmod (n2 : Int) = (ix : Int) := by rw [Int.tmod_eq_emod_of_nonneg (by omega), ← hix, Int.natCast_emod, Int.natCast_add]
              have hwa : IntKind.i64.wrap ((fs : Int) + (k : Int)) = (fs : Int) + (k : Int) := IntWalk.i64_in _ (by omega)
              have hwb : IntKind.i64.wrap (ix : Int) = (ix : Int) := IntWalk.i64_in _ (by omega)
              have hnz : ((n2 : Int) == 0) = false := by simp; omega
              have hnz2 : ¬ n2 = 0 := by omega
              have hnz3 : (n2 == 0) = false := by simp; omega
              have hixi : (ix : Int) < n2 := by omega
              have hix0 : (0 : Int) ≤ (ix : Int) := by omega
              have hKW : Kp w wr := (ER.out.since HU.out (by omega))
              obtain ⟨g, o, eA, hcc⟩ := (HA2.out.upd hKW).at_ (show ix < d.places.length by rw [← HN2.out]; exact hixl)
              have HCG := Lib.hid (HA2.out.at_ (show ix < d.places.length by rw [← HN2.out]; exact hixl))
              obtain ⟨nm, hnm⟩ : ∃ nm, nm = (d.places[ix]'(by rw [← HN2.out]; exact hixl)).1 := ⟨_, rfl⟩
              have cn : wr.cell? ⟨g, o + ix * 2, none⟩ = some (.string ⟨nm.toArray⟩) := by rw [hnm]; exact hcc 0 _ rfl
              have HNM2 : Hid (balW d (fs : Int) (k + 1) = balW d (fs : Int) k ++ [nm]) := Lib.hid (by rw [balW_succ, hnm, Int.toNat_natCast, show (fs + k) % d.places.length = ix by rw [← hix]; exact congrArg _ HN2.out.symm, List.getD_eq_getElem?_getD, List.getElem?_eq_getElem (by rw [← HN2.out]; exact hixl)]; rfl)
              subst eA
              clear hcc hnm hKW hix
              have d8 : wr.cell? ⟨w.heap.size, 8, none⟩ = some (.slice (some ⟨g, o, none⟩) n2 c2) := (HW3.out wr _ _ _ _ _ ER.out).2.cell 8
              have e4 : wr.cell? ⟨wo.heap.size, 4, none⟩ = some (.slice A5 i5 c5) := ER.out.at_.row.cell 4
              have hDl := ER.out.at_.row.lt
              have hDn : wo.heap.size ≠ wr.heap.size := Nat.ne_of_lt hDl
              have HLEN : Hid ((balW d (fs : Int) k).length ≤ 12) := Lib.hid (by rw [balW_len]; omega)
              go_wp2_with (fail)
              have hgw : g < w.heap.size := by obtain ⟨g', o', e', h'⟩ := HCG.out; cases e'; exact World.block_lt_of_cell? _ _ (h' 0 _ rfl)
              have hEB : w.heap.size < wo.heap.size := HD.out.lt
              have hgEB : g < wo.heap.size := by omega
              have hgE : g ≠ wo.heap.size := by omega
              have hBE : w.heap.size ≠ wo.heap.size := by omega
              have HLOW : Hid (∀ b, (Value.slice A5 i5 c5).ownBlock = some b → wo.heap.size ≤ b ∧ b < wr.heap.size) := Lib.hid (fun b hb => ⟨ER.out.at_.hw b hb, ER.out.at_.wi.lt hb⟩)
              go_upto_region 25 with fail
              refine wp_region_gen (R := (fun a b => Upd (fun x => (Value.slice A5 i5 c5).ownBlock = some x ∨ x = wo.heap.size) a b)) (I := (fun n a W => match n with | 0 => Kp wr W | 1 => ∃ A9 m9 c9, a.eval (.tmp 122) = .slice A9 m9 c9 ∧ Row W wo.heap.size 46 (ecells { e0 with cls := c0, fam := f0, wishes := balW d (fs : Int) k } (.slice none 0 0) (.slice A5 i5 c5) (.slice none 0 0)) ∧ EdAt wo (W.setCell ⟨wo.heap.size, 4, none⟩ (.slice A9 m9 c9)) (w.heap.size + 1) (.slice A nl c) L (K + 4) { ({ e0 with cls := c0, fam := f0, wishes := balW d (fs : Int) k } : EntL) with wishes := ({ e0 with cls := c0, fam := f0, wishes := balW d (fs : Int) k } : EntL).wishes ++ [nm] } (.slice none 0 0) (.slice A9 m9 c9) (.slice none 0 0) | _ => ∃ A9 m9 c9, EdAt wo W (w.heap.size + 1) (.slice A nl c) L (K + 4) { ({ e0 with cls := c0, fam := f0, wishes := balW d (fs : Int) k } : EntL) with wishes := ({ e0 with cls := c0, fam := f0, wishes := balW d (fs : Int) k } : EntL).wishes ++ [nm] } (.slice none 0 0) (.slice A9 m9 c9) (.slice none 0 0))) (dl := [107, 108, 109, 110, 111, 112, 113, 114, 115, 116, 117, 118, 119, 120, 121, 122, 123]) (spec := (fun t v w' => match t with | 107 => v = .pointer (some ⟨wo.heap.size, 4, none⟩) | 108 => v = .slice A5 i5 c5 | 109 => v = .pointer (some ⟨w.heap.size, 8, none⟩) | 110 => v = .slice (some ⟨g, o, none⟩) n2 c2 | 111 => v = .int .i64 (fs : Int) | 112 => v = .int .i64 (k : Int) | 113 => v = .int .i64 ((fs : Int) + (k : Int)) | 114 => v = .pointer (some ⟨w.heap.size, 8, none⟩) | 115 => v = .slice (some ⟨g, o, none⟩) n2 c2 | 116 => v = .int .i64 (n2 : Int) | 117 => v = .int .i64 (ix : Int) | 118 => v = .pointer (some ⟨g, o + ix * 2, none⟩) | 119 => v = .pointer (some ⟨g, o + ix * 2, none⟩) | 120 => v = .string ⟨nm.toArray⟩ | 121 => ∃ g9, v = .slice (some ⟨g9, 0, none⟩) 1 1 ∧ Row w' g9 9 [.string ⟨nm.toArray⟩] ∧ g9 ≠ wo.heap.size ∧ ¬ (Value.slice A5 i5 c5).ownBlock = some g9 | 122 => True | 123 => v = .pointer (some ⟨wo.heap.size, 4, none⟩) | _ => True)) (by kernel_rfl) (fun w => Upd.refl _ w) (fun a b c h k => Upd.trans h k (fun _ _ e => e)) ((Upd.refl _ wr).drew) ((Upd.refl _ wr).drew) [15, 17] [((none, none), []), ((none, some 0), [107]), ((none, none), []), ((none, none), [109]), ((none, none), []), ((none, none), []), ((none, none), [111, 112]), ((none, none), []), ((none, none), [114]), ((none, none), [115]), ((none, none), [113, 116]), ((none, none), [110, 117]), ((none, none), [118]), ((none, none), [119]), ((none, some 0), [120]), ((some 0, none), [108, 121]), ((none, none), []), ((some 1, none), [123])] (by kernel_rfl) (by kernel_rfl) (by kernel_rfl) rfl ?_ ⟨?_, ?_, ?_, ?_, ?_, ?_, ?_, ?_, ?_, ?_, ?_, ?_, ?_, ?_, ?_, ?_, ?_, ?_, trivial⟩ ?_
              · intro t v w1' w2' h hk
                revert h
                split <;> intro h <;> first | exact h | (obtain ⟨g9, h1, h2, h3, h4⟩ := h; exact ⟨g9, h1, h2.upd hk (fun e => e.elim h4 h3), h3, h4⟩)
              · intro n a' w' hc hb hs hk hI hd
                have i9 : a'.eval (.tmp 9) = .pointer (some ⟨wo.heap.size, 0, none⟩) := hs.keep 9 (by decide)
                rw [if_pos (by rfl)]
                rw [eval_get] at i9
                refine leavesG_value (v := .pointer (some ⟨wo.heap.size, 4, none⟩)) (w' := w') ?_ ((fun w => Upd.refl _ w) _) (by rcases n with _ | _ | n; exact hI; (obtain ⟨A9, m9, c9, h1, h2⟩ := hI; exact ⟨A9, m9, c9, (eval_put_ne (by decide)).trans h1, h2⟩); exact hI) (fun d h => by cases h; rfl)
                clear hI hk hd hc hb
                go_simp
              · intro n a' w' hc hb hs hk hI hd
                have i107 : a'.eval (.tmp 107) = .pointer (some ⟨wo.heap.size, 4, none⟩) := hd 107 (by simp)
                obtain rfl : n = 0 := Nat.le_zero.1 (hb 0 rfl)
                have x := Upd.cell hI (World.block_lt_of_cell? _ _ e4) id |>.trans e4
                rw [if_pos (by rfl)]
                rw [eval_get] at i107
                refine leavesG_value (v := .slice A5 i5 c5) (w' := w') ?_ ((fun w => Upd.refl _ w) _) (hI) (fun d h => by cases h; rfl)
                clear hI hk hd hc hb
                go_simp
              · intro n a' w' hc hb hs hk hI hd
                have i2 : a'.eval (.tmp 2) = .pointer (some ⟨w.heap.size, 0, none⟩) := hs.keep 2 (by decide)
                rw [if_pos (by rfl)]
                rw [eval_get] at i2
                refine leavesG_value (v := .pointer (some ⟨w.heap.size, 8, none⟩)) (w' := w') ?_ ((fun w => Upd.refl _ w) _) (by rcases n with _ | _ | n; exact hI; (obtain ⟨A9, m9, c9, h1, h2⟩ := hI; exact ⟨A9, m9, c9, (eval_put_ne (by decide)).trans h1, h2⟩); exact hI) (fun d h => by cases h; rfl)
                clear hI hk hd hc hb
                go_simp
              · intro n a' w' hc hb hs hk hI hd
                have i109 : a'.eval (.tmp 109) = .pointer (some ⟨w.heap.size, 8, none⟩) := hd 109 (by simp)
                have x := (Upd.cell hk (World.block_lt_of_cell? _ _ d8) (fun e => e.elim (fun e => (Nat.not_le.2 hEB) (HLOW.out _ e).1) (fun e => hBE e))).trans d8
                rw [if_pos (by rfl)]
                rw [eval_get] at i109
                refine leavesG_value (v := .slice (some ⟨g, o, none⟩) n2 c2) (w' := w') ?_ ((fun w => Upd.refl _ w) _) (by rcases n with _ | _ | n; exact hI; (obtain ⟨A9, m9, c9, h1, h2⟩ := hI; exact ⟨A9, m9, c9, (eval_put_ne (by decide)).trans h1, h2⟩); exact hI) (fun d h => by cases h; rfl)
                clear hI hk hd hc hb
                go_simp
              · intro n a' w' hc hb hs hk hI hd
                have i12 : a'.eval (.tmp 12) = .int .i64 (fs : Int) := hs.keep 12 (by decide)
                rw [if_pos (by rfl)]
                rw [eval_get] at i12
                refine leavesG_value (v := .int .i64 (fs : Int)) (w' := w') ?_ ((fun w => Upd.refl _ w) _) (by rcases n with _ | _ | n; exact hI; (obtain ⟨A9, m9, c9, h1, h2⟩ := hI; exact ⟨A9, m9, c9, (eval_put_ne (by decide)).trans h1, h2⟩); exact hI) (fun d h => by cases h; rfl)
                clear hI hk hd hc hb
                go_simp
              · intro n a' w' hc hb hs hk hI hd
                have i14 : a'.eval (.tmp 14) = .int .i64 (k : Int) := hs.keep 14 (by decide)
                rw [if_pos (by rfl)]
                rw [eval_get] at i14
                refine leavesG_value (v := .int .i64 (k : Int)) (w' := w') ?_ ((fun w => Upd.refl _ w) _) (by rcases n with _ | _ | n; exact hI; (obtain ⟨A9, m9, c9, h1, h2⟩ := hI; exact ⟨A9, m9, c9, (eval_put_ne (by decide)).trans h1, h2⟩); exact hI) (fun d h => by cases h; rfl)
                clear hI hk hd hc hb
                go_simp
              · intro n a' w' hc hb hs hk hI hd
                have i111 : a'.eval (.tmp 111) = .int .i64 (fs : Int) := hd 111 (by simp)
                have i112 : a'.eval (.tmp 112) = .int .i64 (k : Int) := hd 112 (by simp)
                rw [if_pos (by rfl)]
                rw [eval_get] at i111 i112
                refine leavesG_value (v := .int .i64 ((fs : Int) + (k : Int))) (w' := w') ?_ ((fun w => Upd.refl _ w) _) (by rcases n with _ | _ | n; exact hI; (obtain ⟨A9, m9, c9, h1, h2⟩ := hI; exact ⟨A9, m9, c9, (eval_put_ne (by decide)).trans h1, h2⟩); exact hI) (fun d h => by cases h; rfl)
                clear hI hk hd hc hb
                go_simp
              · intro n a' w' hc hb hs hk hI hd
                have i2 : a'.eval (.tmp 2) = .pointer (some ⟨w.heap.size, 0, none⟩) := hs.keep 2 (by decide)
                rw [if_pos (by rfl)]
                rw [eval_get] at i2
                refine leavesG_value (v := .pointer (some ⟨w.heap.size, 8, none⟩)) (w' := w') ?_ ((fun w => Upd.refl _ w) _) (by rcases n with _ | _ | n; exact hI; (obtain ⟨A9, m9, c9, h1, h2⟩ := hI; exact ⟨A9, m9, c9, (eval_put_ne (by decide)).trans h1, h2⟩); exact hI) (fun d h => by cases h; rfl)
                clear hI hk hd hc hb
                go_simp
              · intro n a' w' hc hb hs hk hI hd
                have i114 : a'.eval (.tmp 114) = .pointer (some ⟨w.heap.size, 8, none⟩) := hd 114 (by simp)
                have x := (Upd.cell hk (World.block_lt_of_cell? _ _ d8) (fun e => e.elim (fun e => (Nat.not_le.2 hEB) (HLOW.out _ e).1) (fun e => hBE e))).trans d8
                rw [if_pos (by rfl)]
                rw [eval_get] at i114
                refine leavesG_value (v := .slice (some ⟨g, o, none⟩) n2 c2) (w' := w') ?_ ((fun w => Upd.refl _ w) _) (by rcases n with _ | _ | n; exact hI; (obtain ⟨A9, m9, c9, h1, h2⟩ := hI; exact ⟨A9, m9, c9, (eval_put_ne (by decide)).trans h1, h2⟩); exact hI) (fun d h => by cases h; rfl)
                clear hI hk hd hc hb
                go_simp
              · intro n a' w' hc hb hs hk hI hd
                have i115 : a'.eval (.tmp 115) = .slice (some ⟨g, o, none⟩) n2 c2 := hd 115 (by simp)
                rw [if_pos (by rfl)]
                rw [eval_get] at i115
                refine leavesG_value (v := .int .i64 (n2 : Int)) (w' := w') ?_ ((fun w => Upd.refl _ w) _) (by rcases n with _ | _ | n; exact hI; (obtain ⟨A9, m9, c9, h1, h2⟩ := hI; exact ⟨A9, m9, c9, (eval_put_ne (by decide)).trans h1, h2⟩); exact hI) (fun d h => by cases h; rfl)
                clear hI hk hd hc hb
                go_simp
              · intro n a' w' hc hb hs hk hI hd
                have i113 : a'.eval (.tmp 113) = .int .i64 ((fs : Int) + (k : Int)) := hd 113 (by simp)
                have i116 : a'.eval (.tmp 116) = .int .i64 (n2 : Int) := hd 116 (by simp)
                rw [if_pos (by rfl)]
                rw [eval_get] at i113 i116
                refine leavesG_value (v := .int .i64 (ix : Int)) (w' := w') ?_ ((fun w => Upd.refl _ w) _) (by rcases n with _ | _ | n; exact hI; (obtain ⟨A9, m9, c9, h1, h2⟩ := hI; exact ⟨A9, m9, c9, (eval_put_ne (by decide)).trans h1, h2⟩); exact hI) (fun d h => by cases h; rfl)
                clear hI hk hd hc hb
                go_simp
              · intro n a' w' hc hb hs hk hI hd
                have i110 : a'.eval (.tmp 110) = .slice (some ⟨g, o, none⟩) n2 c2 := hd 110 (by simp)
                have i117 : a'.eval (.tmp 117) = .int .i64 (ix : Int) := hd 117 (by simp)
                rw [if_pos (by rfl)]
                rw [eval_get] at i110 i117
                refine leavesG_value (v := .pointer (some ⟨g, o + ix * 2, none⟩)) (w' := w') ?_ ((fun w => Upd.refl _ w) _) (by rcases n with _ | _ | n; exact hI; (obtain ⟨A9, m9, c9, h1, h2⟩ := hI; exact ⟨A9, m9, c9, (eval_put_ne (by decide)).trans h1, h2⟩); exact hI) (fun d h => by cases h; rfl)
                clear hI hk hd hc hb
                go_simp
              · intro n a' w' hc hb hs hk hI hd
                have i118 : a'.eval (.tmp 118) = .pointer (some ⟨g, o + ix * 2, none⟩) := hd 118 (by simp)
                rw [if_pos (by rfl)]
                rw [eval_get] at i118
                refine leavesG_value (v := .pointer (some ⟨g, o + ix * 2, none⟩)) (w' := w') ?_ ((fun w => Upd.refl _ w) _) (by rcases n with _ | _ | n; exact hI; (obtain ⟨A9, m9, c9, h1, h2⟩ := hI; exact ⟨A9, m9, c9, (eval_put_ne (by decide)).trans h1, h2⟩); exact hI) (fun d h => by cases h; rfl)
                clear hI hk hd hc hb
                go_simp
              · intro n a' w' hc hb hs hk hI hd
                have i119 : a'.eval (.tmp 119) = .pointer (some ⟨g, o + ix * 2, none⟩) := hd 119 (by simp)
                have x := (Upd.cell hk (World.block_lt_of_cell? _ _ cn) (fun e => e.elim (fun e => (Nat.not_le.2 hgEB) (HLOW.out _ e).1) (fun e => hgE e))).trans cn
                rw [if_pos (by rfl)]
                rw [eval_get] at i119
                refine leavesG_value (v := .string ⟨nm.toArray⟩) (w' := w') ?_ ((fun w => Upd.refl _ w) _) (by rcases n with _ | _ | n; exact hI; (obtain ⟨A9, m9, c9, h1, h2⟩ := hI; exact ⟨A9, m9, c9, (eval_put_ne (by decide)).trans h1, h2⟩); exact hI) (fun d h => by cases h; rfl)
                clear hI hk hd hc hb
                go_simp
              · intro n a' w' hc hb hs hk hI hd
                have i120 : a'.eval (.tmp 120) = .string ⟨nm.toArray⟩ := hd 120 (by simp)
                rw [if_pos (by rfl)]
                obtain rfl : n = 0 := Nat.le_zero.1 (hb 0 rfl)
                rw [eval_get] at i120
                have hz := Upd.size hI
                refine leavesG_value (v := .slice (some ⟨w'.heap.size, 0, none⟩) 1 1) (w' := w'.alloc (.cells #[.string ⟨nm.toArray⟩] 9)) ?_ ((Upd.refl _ w').alloc _) (Kp.trans hI ((Upd.refl _ w').alloc _)) (fun d h => by cases h; exact ⟨w'.heap.size, rfl, Row.new w' _ _, by have := ER.out.at_.row.lt; omega, fun e => by have := HLOW.out _ e; omega⟩)
                clear hI hk hd hc hb hz
                go_simp
              · intro n a' w' hc hb hs hk hI hd
                have i108 : a'.eval (.tmp 108) = .slice A5 i5 c5 := hd 108 (by simp)
                have i121 : ∃ g9, a'.eval (.tmp 121) = .slice (some ⟨g9, 0, none⟩) 1 1 ∧ Row w' g9 9 [.string ⟨nm.toArray⟩] ∧ g9 ≠ wo.heap.size ∧ ¬ (Value.slice A5 i5 c5).ownBlock = some g9 := hd 121 (by simp)
                rw [if_pos (by rfl)]
                obtain rfl := hc 0 rfl
                obtain ⟨g9, e9, hr9, hn1, hn2⟩ := i121
                have EW := ER.out.far hI
                refine leavesG_append (.tmp 108) (.tmp 121) _ rfl T_strs i108 EW.at_.wi e9 (Rd.of_new (cs := #[.string ⟨nm.toArray⟩]) hr9 rfl) (by intro u hu; simp at hu; subst hu; rfl) (by have := HLEN.out; show (balW d (fs : Int) k).length + 1 ≤ maxLen; unfold maxLen; omega) (by have := HLEN.out; show ((balW d (fs : Int) k).length + 1) * 16 ≤ _; omega) ?_
                intro v' w'' hA
                obtain ⟨A9, c9, e9', _⟩ := hA.sl.form
                subst e9'
                have HH := EW.addW (xs := [nm]) (Upd.refl _ w') rfl rfl hA
                exact ⟨⟨hA.upd.mono (fun _ _ h => .inl h), ⟨A9, _, c9, eval_put_same (by rw [hs.size]; exact of_decide_eq_true rfl), HH.1, HH.2⟩⟩, fun d h => by cases h; trivial⟩
              · intro n a' w' hc hb hs hk hI hd
                have i9 : a'.eval (.tmp 9) = .pointer (some ⟨wo.heap.size, 0, none⟩) := hs.keep 9 (by decide)
                rw [if_pos (by rfl)]
                rw [eval_get] at i9
                refine leavesG_value (v := .pointer (some ⟨wo.heap.size, 4, none⟩)) (w' := w') ?_ ((fun w => Upd.refl _ w) _) (by rcases n with _ | _ | n; exact hI; (obtain ⟨A9, m9, c9, h1, h2⟩ := hI; exact ⟨A9, m9, c9, (eval_put_ne (by decide)).trans h1, h2⟩); exact hI) (fun d h => by cases h; rfl)
                clear hI hk hd hc hb
                go_simp
              · intro n a' w' hc hb hs hk hI hd
                have i123 : a'.eval (.tmp 123) = .pointer (some ⟨wo.heap.size, 4, none⟩) := hd 123 (by simp)
                rw [if_pos (by rfl)]
                obtain rfl := hc 1 rfl
                obtain ⟨A9, m9, c9, h1, h2, h3⟩ := hI
                exact leavesG_store 44 (.tmp 123) (.tmp 122) rfl i123 h1 rfl (by kernel_rfl) (h2.cell 4) (h2.frozen (j := 4) (by simp [ecells])) ((Upd.refl _ w').setCell (fun _ => .inr rfl) _) ⟨A9, m9, c9, h3⟩ (fun d h => by cases h)
              · intro a' w' hs hk hI hd
                obtain ⟨A9, m9, c9, hI⟩ := hI
                have E9 := Lib.hid hI
                obtain ⟨w9, hw9⟩ : ∃ W, W = w' := ⟨_, rfl⟩
                rw [← hw9] at E9 ⊢
                obtain ⟨f, hf⟩ := hs.lit
                rw [hf]
                clear hf hw9 hk hs hd hI
                simp only [pickS, Nat.reduceAdd, List.contains_cons, List.contains_nil, Nat.reduceBEq, Bool.or_false, Bool.false_or, Bool.or_true, Bool.true_or, Bool.false_eq_true, if_true, if_false]
                go_wp2_with (fail)
                go_roundw
                all_goals (first
                  | exact ⟨k + 1, _, by go_num, by omega, by rw [HNM2.out]; exact E9.out⟩
                  | ((repeat apply Exists.intro); exact ⟨⟨k + 1, _, by go_num, by omega, by rw [HNM2.out]; exact E9.out⟩, rfl⟩)
                  | (simp [intOf]; omega))
            · obtain rfl : k = ws := by omega
              go_wp2_with (fail)
              go_meet
              exact ⟨_, _, _, by rw [HONE.out]; have h := ER.out; rw [HE0.out] at h; exact h⟩
        · obtain ⟨sv, hsv⟩ : ∃ x : Nat, nextV L K 8 = x := ⟨(nextV L K 8).toNat, by have := nextV_bounds L K (n := 8) (by decide); omega⟩
          have b2 := nextV_bounds L K (n := 8) (by decide)
          rw [hsv] at b2
          have HONE : Hid (oneE d L K i = ({ id := 101 + (i : Int), cls := 0, fam := 0, picks := [], wishes := [], groups := panG (sv : Int) 3 }, K + 1)) := Lib.hid (by unfold oneE; rw [if_neg (by have := HKD.out; omega), if_neg (by have := HKD.out; omega), hsv])
          have H4 := Lib.hid hsv
          have hsv8 : sv < 8 := by omega
          clear hsv b2
          go_upto_region 28 with (go_at_call 28; show Calls _ _ _ w3 _; refine (NW.out w3 (K) e0 (.slice none 0 0) (.slice none 0 0) (.slice none 0 0) (8) E3.out (by decide) (by decide)).mono ?_; rintro en w4 ⟨rfl, hr, hu⟩; rw [show nextV L (K) (8) = (sv : Int) from H4.out]; have E4 := Lib.hid (E3.out.next hr hu); clear hr hu)
          go_wp2_with (fail)
          go_loopw [16] (fun v wr => ∃ (k : Nat) (xg : Value), v = .int .i64 k ∧ k ≤ 3 ∧ EdAt wo wr (w.heap.size + 1) (.slice A nl c) L (K + 1) { e0 with groups := panG (sv : Int) k } (.slice none 0 0) (.slice none 0 0) xg) (fun v _ => 3 - (intOf v).toNat)
          case atStart => exact ⟨0, (.slice none 0 0), rfl, Nat.zero_le _, by have h := E4.out; rw [show { e0 with groups := panG (sv : Int) 0 } = e0 by rw [HE0.out]; rfl]; exact h⟩
          case round =>
            obtain ⟨k, xg, rfl, hk, hE⟩ := hrel
            have ER := Lib.hid hE
            clear hE
            obtain ⟨A5, i5, c5, e5⟩ : ∃ A n c, xg = .slice A n c := by obtain ⟨A, c, e, _⟩ := ER.out.at_.g.form; exact ⟨_, _, _, e⟩
            subst e5
            have hk0 : (0 : Int) ≤ k := by omega
            by_cases hlk : k < 3
            · have hlki : (k : Int) < 3 := by omega
              have HKL := Lib.hid hlk
              obtain ⟨q, hq⟩ : ∃ q : Nat, sv / 2 ^ k = q := ⟨_, rfl⟩
              obtain ⟨m, hm⟩ : ∃ m : Nat, q % 2 = m := ⟨_, rfl⟩
              have hc1 : k = 0 ∨ k = 1 ∨ k = 2 := by omega
              have hc2 : sv = 0 ∨ sv = 1 ∨ sv = 2 ∨ sv = 3 ∨ sv = 4 ∨ sv = 5 ∨ sv = 6 ∨ sv = 7 := by omega
              have hbb : (bits BinOp.and IntKind.i64 ((sv : Int) / 2 ^ k) 1 == 1) = decide (m = 1) := by
                rw [← hm, ← hq]
                rcases hc1 with rfl | rfl | rfl <;> rcases hc2 with rfl | rfl | rfl | rfl | rfl | rfl | rfl | rfl <;> rfl
              have HPG : Hid (panG (sv : Int) (k + 1) = if m = 1 then panG (sv : Int) k ++ [wordL (k : Int)] else panG (sv : Int) k) := Lib.hid (by rw [panG_succ, ← hm, ← hq])
              have hmb : m < 2 := by rw [← hm]; exact Nat.mod_lt _ (by decide)
              clear hq hm hc1 hc2
              have HLEN : Hid ((panG (sv : Int) k).length ≤ 3) := Lib.hid (panG_len _ _ (by omega))
              by_cases hm1 : m = 1
              · have hmt : (bits BinOp.and IntKind.i64 ((sv : Int) / 2 ^ k) 1 == 1) = true := by rw [hbb]; exact decide_eq_true hm1
                replace HPG := Lib.hid (HPG.out.trans (if_pos hm1))
                clear hm1 hmb hbb
                have hLOW : ∀ b, (Value.slice A5 i5 c5).ownBlock = some b → wo.heap.size ≤ b ∧ b < wr.heap.size := fun b hb => ⟨ER.out.at_.hg b hb, ER.out.at_.g.lt hb⟩
                have HLOW := Lib.hid hLOW
                have e5' : wr.cell? ⟨wo.heap.size, 5, none⟩ = some (.slice A5 i5 c5) := ER.out.at_.row.cell 5
                clear hLOW
                go_upto_region 32 with fail
                refine wp_region_gen (R := (fun a b => Upd (fun x => (Value.slice A5 i5 c5).ownBlock = some x ∨ x = wo.heap.size) a b)) (I := (fun n a W => match n with | 0 => Kp wr W | 1 => ∃ A9 m9 c9, a.eval (.tmp 142) = .slice A9 m9 c9 ∧ Row W wo.heap.size 46 (ecells { e0 with groups := panG (sv : Int) k } (.slice none 0 0) (.slice none 0 0) (.slice A5 i5 c5)) ∧ EdAt wo (W.setCell ⟨wo.heap.size, 5, none⟩ (.slice A9 m9 c9)) (w.heap.size + 1) (.slice A nl c) L (K + 1) { ({ e0 with groups := panG (sv : Int) k } : EntL) with groups := ({ e0 with groups := panG (sv : Int) k } : EntL).groups ++ [(wordL (k : Int))] } (.slice none 0 0) (.slice none 0 0) (.slice A9 m9 c9) | _ => ∃ A9 m9 c9, EdAt wo W (w.heap.size + 1) (.slice A nl c) L (K + 1) { ({ e0 with groups := panG (sv : Int) k } : EntL) with groups := ({ e0 with groups := panG (sv : Int) k } : EntL).groups ++ [(wordL (k : Int))] } (.slice none 0 0) (.slice none 0 0) (.slice A9 m9 c9))) (dl := [137, 138, 139, 140, 141, 142, 143]) (spec := (fun t v w' => match t with | 137 => v = .pointer (some ⟨wo.heap.size, 5, none⟩) | 138 => v = .slice A5 i5 c5 | 139 => v = .int .i64 (k : Int) | 140 => v = .string ⟨(wordL (k : Int)).toArray⟩ | 141 => ∃ g9, v = .slice (some ⟨g9, 0, none⟩) 1 1 ∧ Row w' g9 9 [.string ⟨(wordL (k : Int)).toArray⟩] ∧ g9 ≠ wo.heap.size ∧ ¬ (Value.slice A5 i5 c5).ownBlock = some g9 | 142 => True | 143 => v = .pointer (some ⟨wo.heap.size, 5, none⟩) | _ => True)) (by kernel_rfl) (fun w => Upd.refl _ w) (fun a b c h k => Upd.trans h k (fun _ _ e => e)) ((Upd.refl _ wr).drew) ((Upd.refl _ wr).drew) [5, 7] [((none, none), []), ((none, some 0), [137]), ((none, none), []), ((none, some 0), [139]), ((none, some 0), [140]), ((some 0, none), [138, 141]), ((none, none), []), ((some 1, none), [143])] (by kernel_rfl) (by kernel_rfl) (by kernel_rfl) rfl ?_ ⟨?_, ?_, ?_, ?_, ?_, ?_, ?_, ?_, trivial⟩ ?_
                · intro t v w1' w2' h hk
                  revert h
                  split <;> intro h <;> first | exact h | (obtain ⟨g9, h1, h2, h3, h4⟩ := h; exact ⟨g9, h1, h2.upd hk (fun e => e.elim h4 h3), h3, h4⟩)
                · intro n a' w' hc hb hs hk hI hd
                  have i9 : a'.eval (.tmp 9) = .pointer (some ⟨wo.heap.size, 0, none⟩) := hs.keep 9 (by decide)
                  rw [if_pos (by rfl)]
                  rw [eval_get] at i9
                  refine leavesG_value (v := .pointer (some ⟨wo.heap.size, 5, none⟩)) (w' := w') ?_ ((fun w => Upd.refl _ w) _) (by rcases n with _ | _ | n; exact hI; (obtain ⟨A9, m9, c9, h1, h2⟩ := hI; exact ⟨A9, m9, c9, (eval_put_ne (by decide)).trans h1, h2⟩); exact hI) (fun d h => by cases h; rfl)
                  clear hI hk hd hc hb
                  go_simp
                · intro n a' w' hc hb hs hk hI hd
                  have i137 : a'.eval (.tmp 137) = .pointer (some ⟨wo.heap.size, 5, none⟩) := hd 137 (by simp)
                  obtain rfl : n = 0 := Nat.le_zero.1 (hb 0 rfl)
                  have x := Upd.cell hI (World.block_lt_of_cell? _ _ e5') id |>.trans e5'
                  rw [if_pos (by rfl)]
                  rw [eval_get] at i137
                  refine leavesG_value (v := .slice A5 i5 c5) (w' := w') ?_ ((fun w => Upd.refl _ w) _) (hI) (fun d h => by cases h; rfl)
                  clear hI hk hd hc hb
                  go_simp
                · intro n a' w' hc hb hs hk hI hd
                  have i16 : a'.eval (.tmp 16) = .int .i64 (k : Int) := hs.keep 16 (by decide)
                  rw [if_pos (by rfl)]
                  rw [eval_get] at i16
                  refine leavesG_value (v := .int .i64 (k : Int)) (w' := w') ?_ ((fun w => Upd.refl _ w) _) (by rcases n with _ | _ | n; exact hI; (obtain ⟨A9, m9, c9, h1, h2⟩ := hI; exact ⟨A9, m9, c9, (eval_put_ne (by decide)).trans h1, h2⟩); exact hI) (fun d h => by cases h; rfl)
                  clear hI hk hd hc hb
                  go_simp
                · intro n a' w' hc hb hs hk hI hd
                  have i139 : a'.eval (.tmp 139) = .int .i64 (k : Int) := hd 139 (by simp)
                  obtain rfl : n = 0 := Nat.le_zero.1 (hb 0 rfl)
                  rw [if_pos (by rfl)]
                  rw [eval_get] at i139
                  refine leavesG_call (f := 27) (args := #[.int .i64 (k : Int)]) ?_ ?_
                  · clear hI hk hd hb hc
                    go_simp
                  · exact (word6_any w' (k : Int) (by have := HKL.out; exact in64_small (by omega) (by omega))).mono (by rintro en w'' ⟨rfl, hkk⟩; exact ⟨_, rfl, ⟨hkk.mono (fun _ _ h => h.elim), Kp.trans hI hkk⟩, fun d h => by cases h; rfl⟩)
                · intro n a' w' hc hb hs hk hI hd
                  have i140 : a'.eval (.tmp 140) = .string ⟨(wordL (k : Int)).toArray⟩ := hd 140 (by simp)
                  rw [if_pos (by rfl)]
                  obtain rfl : n = 0 := Nat.le_zero.1 (hb 0 rfl)
                  rw [eval_get] at i140
                  have hz := Upd.size hI
                  refine leavesG_value (v := .slice (some ⟨w'.heap.size, 0, none⟩) 1 1) (w' := w'.alloc (.cells #[.string ⟨(wordL (k : Int)).toArray⟩] 9)) ?_ ((Upd.refl _ w').alloc _) (Kp.trans hI ((Upd.refl _ w').alloc _)) (fun d h => by cases h; exact ⟨w'.heap.size, rfl, Row.new w' _ _, by have := ER.out.at_.row.lt; omega, fun e => by have := HLOW.out _ e; omega⟩)
                  clear hI hk hd hc hb hz
                  go_simp
                · intro n a' w' hc hb hs hk hI hd
                  have i138 : a'.eval (.tmp 138) = .slice A5 i5 c5 := hd 138 (by simp)
                  have i141 : ∃ g9, a'.eval (.tmp 141) = .slice (some ⟨g9, 0, none⟩) 1 1 ∧ Row w' g9 9 [.string ⟨(wordL (k : Int)).toArray⟩] ∧ g9 ≠ wo.heap.size ∧ ¬ (Value.slice A5 i5 c5).ownBlock = some g9 := hd 141 (by simp)
                  rw [if_pos (by rfl)]
                  obtain rfl := hc 0 rfl
                  obtain ⟨g9, e9, hr9, hn1, hn2⟩ := i141
                  have EW := ER.out.far hI
                  refine leavesG_append (.tmp 138) (.tmp 141) _ rfl T_strs i138 EW.at_.g e9 (Rd.of_new (cs := #[.string ⟨(wordL (k : Int)).toArray⟩]) hr9 rfl) (by intro u hu; simp at hu; subst hu; rfl) (by have := HLEN.out; show (panG (sv : Int) k).length + 1 ≤ maxLen; unfold maxLen; omega) (by have := HLEN.out; show ((panG (sv : Int) k).length + 1) * 16 ≤ _; omega) ?_
                  intro v' w'' hA
                  obtain ⟨A9, c9, e9', _⟩ := hA.sl.form
                  subst e9'
                  have HH := EW.addG (xs := [(wordL (k : Int))]) (Upd.refl _ w') rfl rfl hA
                  exact ⟨⟨hA.upd.mono (fun _ _ h => .inl h), ⟨A9, _, c9, eval_put_same (by rw [hs.size]; exact of_decide_eq_true rfl), HH.1, HH.2⟩⟩, fun d h => by cases h; trivial⟩
                · intro n a' w' hc hb hs hk hI hd
                  have i9 : a'.eval (.tmp 9) = .pointer (some ⟨wo.heap.size, 0, none⟩) := hs.keep 9 (by decide)
                  rw [if_pos (by rfl)]
                  rw [eval_get] at i9
                  refine leavesG_value (v := .pointer (some ⟨wo.heap.size, 5, none⟩)) (w' := w') ?_ ((fun w => Upd.refl _ w) _) (by rcases n with _ | _ | n; exact hI; (obtain ⟨A9, m9, c9, h1, h2⟩ := hI; exact ⟨A9, m9, c9, (eval_put_ne (by decide)).trans h1, h2⟩); exact hI) (fun d h => by cases h; rfl)
                  clear hI hk hd hc hb
                  go_simp
                · intro n a' w' hc hb hs hk hI hd
                  have i143 : a'.eval (.tmp 143) = .pointer (some ⟨wo.heap.size, 5, none⟩) := hd 143 (by simp)
                  rw [if_pos (by rfl)]
                  obtain rfl := hc 1 rfl
                  obtain ⟨A9, m9, c9, h1, h2, h3⟩ := hI
                  exact leavesG_store 44 (.tmp 143) (.tmp 142) rfl i143 h1 rfl (by kernel_rfl) (h2.cell 5) (h2.frozen (j := 5) (by simp [ecells])) ((Upd.refl _ w').setCell (fun _ => .inr rfl) _) ⟨A9, m9, c9, h3⟩ (fun d h => by cases h)
                · intro a' w' hs hk hI hd
                  obtain ⟨A9, m9, c9, hI⟩ := hI
                  have E9 := Lib.hid hI
                  obtain ⟨w9, hw9⟩ : ∃ W, W = w' := ⟨_, rfl⟩
                  rw [← hw9] at E9 ⊢
                  obtain ⟨f, hf⟩ := hs.lit
                  rw [hf]
                  clear hf hw9 hk hs hd hI
                  simp only [pickS, Nat.reduceAdd, List.contains_cons, List.contains_nil, Nat.reduceBEq, Bool.or_false, Bool.false_or, Bool.or_true, Bool.true_or, Bool.false_eq_true, if_true, if_false]
                  go_wp2_with (fail)
                  go_roundw
                  all_goals (first
                    | exact ⟨k + 1, _, by go_num, by omega, by rw [HPG.out]; exact E9.out⟩
                    | ((repeat apply Exists.intro); exact ⟨⟨k + 1, _, by go_num, by omega, by rw [HPG.out]; exact E9.out⟩, rfl⟩)
                    | (simp [intOf]; omega))
              · have hmf : (bits BinOp.and IntKind.i64 ((sv : Int) / 2 ^ k) 1 == 1) = false := by rw [hbb]; exact decide_eq_false hm1
                replace HPG := Lib.hid (HPG.out.trans (if_neg hm1))
                clear hm1 hmb hbb
                go_wp2_with (fail)
                go_roundw
                all_goals (first
                  | exact ⟨k + 1, _, by go_num, by omega, by rw [HPG.out]; exact ER.out⟩
                  | ((repeat apply Exists.intro); exact ⟨⟨k + 1, _, by go_num, by omega, by rw [HPG.out]; exact ER.out⟩, rfl⟩)
                  | (simp [intOf]; omega))
            · obtain rfl : k = 3 := by omega
              go_wp2_with (fail)
              go_meet
              exact ⟨_, _, _, by rw [HONE.out]; have h := ER.out; rw [HE0.out] at h; exact h⟩
      case rest =>
        obtain ⟨xp, xw, xg, hE⟩ := hcut
        obtain ⟨A5, i5, c5, e5⟩ : ∃ A n c, xp = .slice A n c := by obtain ⟨A, c, e, _⟩ := hE.at_.p.form; exact ⟨_, _, _, e⟩
        obtain ⟨A6, i6, c6, e6⟩ : ∃ A n c, xw = .slice A n c := by obtain ⟨A, c, e, _⟩ := hE.at_.wi.form; exact ⟨_, _, _, e⟩
        obtain ⟨A7, i7, c7, e7⟩ : ∃ A n c, xg = .slice A n c := by obtain ⟨A, c, e, _⟩ := hE.at_.g.form; exact ⟨_, _, _, e⟩
        subst e5 e6 e7
        obtain ⟨o, ho⟩ : ∃ o, o = oneE d L K i := ⟨_, rfl⟩
        rw [← ho] at hE
        have EC := Lib.hid hE
        have HO1 := Lib.hid ho
        clear hE ho
        obtain ⟨w8, hw8⟩ : ∃ W, W = wc := ⟨_, rfl⟩
        rw [← hw8] at EC ⊢
        clear hw8
        have OC := Lib.hid (EC.out.out HNM.out HO.out)
        have HXL : Hid (X.length ≤ 7) := Lib.hid (by have h := congrArg List.length HX.out; rw [List.length_map, entsL_len] at h; have := HI.out; omega)
        have EOKS : Hid (EntOk o.1) := Lib.hid (by rw [HO1.out]; exact oneE_oks HG.out HOK.out L K i)
        have hagg := Try.underlying46
        go_wp2_with (first
          | (show wpList _ _ _ (⟨some 145, _, _, _, _, _⟩ :: _) _ _; refine wpList_load_mid rfl 46 (.tmp 9) rfl wo.heap.size 0 rfl (ecells o.1 (.slice A5 i5 c5) (.slice A6 i6 c6) (.slice A7 i7 c7)) _ EC.out.at_.row.rangeAt hagg rfl (by kernel_rfl) ?_)
          | (at_builtin; refine wpList_append_sl rfl (.tmp 144) (.tmp 146) _ rfl T_ents (v := .slice Ao no co) rfl (OC.out.far ((Upd.refl _ w8).alloc _)).sl (m := 1) (news := ecells o.1 (.slice A5 i5 c5) (.slice A6 i6 c6) (.slice A7 i7 c7)) rfl (Rd.of_new (cs := (ecells o.1 (.slice A5 i5 c5) (.slice A6 i6 c6) (.slice A7 i7 c7)).toArray) (Row.new_at _ _ _ _ rfl) rfl) (by intro u hu; simp at hu; rcases hu with rfl | rfl | rfl | rfl | rfl | rfl <;> rfl) (by have := HXL.out; unfold maxLen; omega) (by have := HXL.out; omega) ?_; intro v9 w9 hA; obtain ⟨A9, c9, rfl, _⟩ := hA.sl.form; have HH := EdAt.push EC.out HNM.out HO.out EOKS.out HU.out.size ((Upd.refl _ w8).alloc _) hA; have HPU := Lib.hid HH; clear hA HH))
        have HOW := Lib.hid HO.out.own
        have K9 : Hid (Kp w w9 ∧ Row w9 w.heap.size 30 (dcells d (.slice A1 n1 c1) (.slice A2 n2 c2) (.slice A3 n3 c3) (.slice A4 n4 c4))) := Lib.hid ⟨Upd.trans (EC.out.since HU.out (by omega)) HPU.out.2.2 (fun b hb e => by have := HOW.out b e; omega), (EC.out.row HD.out (by omega)).upd HPU.out.2.2 (fun e => OC.out.sl.ne_row (EC.out.row HD.out (by omega)) (by decide) e)⟩
        have HXN : Hid ((X ++ [(o.1, Value.slice A5 i5 c5, Value.slice A6 i6 c6, Value.slice A7 i7 c7)]).map (·.1) = (entsL d L (i + 1)).1) := Lib.hid (by rw [List.map_append, HX.out, HO1.out, HKE.out]; rfl)
        have HN9 : Hid (NumAt w9 (w.heap.size + 1) (.slice A nl c) L (entsL d L (i + 1)).2) := Lib.hid (by have h := HPU.out.2.1; rw [HO1.out, HKE.out] at h; exact h)
        go_roundw
        all_goals (first
          | exact ⟨i + 1, _, A9, _, c9, rfl, by go_num, by omega, HXN.out, HPU.out.1, HN9.out, K9.out⟩
          | ((repeat apply Exists.intro); exact ⟨⟨i + 1, _, A9, _, c9, rfl, by go_num, by omega, HXN.out, HPU.out.1, HN9.out, K9.out⟩, rfl⟩)
          | (simp [intOf]; omega))
    · obtain rfl : i = mn := by omega
      go_wp2_with (fail)
      go_ret
      exact ⟨_, X, rfl, by rw [HMN.out.2]; exact HX.out, HO.out, HU.out⟩
end Go.Proofs.Ytaejnhgnacgheaa
