/- types: twice (a set by a map of bools), at ints and strings; the reference's same and twice, has. -/
import Derived.Test.YtaejnhgnacgheaaT1
import Derived.Maps.OwnOps
namespace Go.Proofs.Ytaejnhgnacgheaa
set_option linter.unusedVariables false
set_option linter.unusedSimpArgs false
open Go.RowKit Go.Maps Go.ChangeMaps

/-- block b is a map whose true keys are those of S -/
def SetM {α : Type} [DecidableEq α] (P : Program) (k e : TypeId) (lit : α → Lit) (ok : α → Prop) (w : World) (b n : Nat) (S : List α) : Prop :=
  ∃ D : DataW Unit, w.ownsMap P k (plainElem P e) b n D ∧ ∀ x, ok x → D.atKey (lit x) (.lit (.bool false)) = .lit (.bool (decide (x ∈ S)))
theorem ownsMap_isMap {P : Program} {k : TypeId} {R : Value → Option (DataW Unit × List MemPlace)} {w : World} {b n : Nat} {D : DataW Unit} (h : w.ownsMap P k R b n D) : IsMap D := by
  obtain ⟨es, clock, _, _, _, rfl⟩ := h
  exact ⟨_, rfl⟩
theorem plainElem_bool_inv {H : Type} {P : Program} {e : TypeId} (he : P.underlying e = some .bool) {v : Value} {z : DataW H × List MemPlace} (h : plainElem P e v = some z) : ∃ a, v = .bool a ∧ z = (.lit (.bool a), []) := by
  unfold plainElem at h
  rw [he] at h
  cases v <;> simp at h
  subst h
  exact ⟨_, rfl, rfl⟩
section
variable {α : Type} [DecidableEq α] {P : Program} {k e t : TypeId} {lit : α → Lit} {ok : α → Prop} {w : World} {b n : Nat} {S : List α}
theorem SetM.made (w : World) : SetM P k e lit ok (w.alloc (.map #[] 0)) w.heap.size 0 ([] : List α) :=
  ⟨.map [], World.ownsMap_made w P k _, fun x _ => by simp [DataW.atKey]⟩
theorem SetM.look (h : SetM P k e lit ok w b n S) (K : Keyed P k) (ht : P.underlying t = some (.map k e)) (he : P.underlying e = some .bool) (hz : (zeroValue e).run P w = .ok (.bool false) w) {x : α} (hx : ok x) {key : Value} (hkey : keyOf P k key = some (lit x)) :
    (Instr.lookup t (.map (some b)) key false).run P w = .ok (.bool (decide (x ∈ S))) w := by
  obtain ⟨D, h1, h2⟩ := h
  obtain ⟨v, ps, hrun, hv⟩ := h1.lookup K ht hz (plainElem_bool he false) hkey
  obtain ⟨a, rfl, hc⟩ := plainElem_bool_inv he hv
  rw [h2 x hx] at hc
  simp only [Prod.mk.injEq, DataW.lit.injEq, Lit.bool.injEq] at hc
  rw [hrun, hc.1]
theorem SetM.add (h : SetM P k e lit ok w b n S) (K : Keyed P k) (ht : P.underlying t = some (.map k e)) (he : P.underlying e = some .bool) (hn : n < maxLen) (hl : ∀ x, WideAt.IsKeyLit (lit x)) (hinj : ∀ x y, lit x = lit y → x = y) {x : α} (hx : ok x) {key : Value} (hkey : keyOf P k key = some (lit x)) :
    ∃ w', (Instr.mapUpdate t (.map (some b)) key (.bool true)).run P w = .ok () w' ∧ SetM P k e lit ok w' b (n + 1) (S ++ [x]) ∧ w.grownBy w' (some b) := by
  obtain ⟨D, h1, h2⟩ := h
  obtain ⟨w', hrun, r1, r2⟩ := h1.update K ht hn hkey (plainElem_bool he true)
  refine ⟨w', hrun, ⟨_, r1, fun y hy => ?_⟩, r2⟩
  by_cases hxy : y = x
  · subst hxy
    rw [atKey_put_same (ownsMap_isMap h1) (hl y)]
    simp
  · rw [atKey_put_other (fun e => hxy (hinj _ _ e)), h2 y hy]
    simp [hxy]
theorem wpList_set_has {ops : Array Oper} {rest : List Oper} {o : Oper} {a : Act} {Q : Exit → Act → World → Prop} (hg : o.guard = none) (m x : Operand) (hop : o.op = Op.lookup t m x false)
    (K : Keyed P k) (ht : P.underlying t = some (.map k e)) (he : P.underlying e = some .bool) (hz : (zeroValue e).run P w = .ok (.bool false) w) (hm : a.eval m = .map (some b)) (h : SetM P k e lit ok w b n S) (y : α) (hy : ok y) {key : Value} (hx : a.eval x = key) (hkey : keyOf P k key = some (lit y))
    (hK : ∀ r : Bool, (r = true ↔ y ∈ S) → wpList P ops Q rest (a.put o.dst (.bool r)) w) : wpList P ops Q (o :: rest) a w := by
  refine wpList_plain hg fun K' hK' => ?_
  unfold Oper.wp
  simp [execOp, hop, hm, hx, h.look K ht he hz hy hkey, Result.andThen]
  exact hK' _ _ (hK _ (by simp))
theorem wpList_set_add {ops : Array Oper} {rest : List Oper} {o : Oper} {a : Act} {Q : Exit → Act → World → Prop} (hg : o.guard = none) (m x v : Operand) (hop : o.op = Op.mapUpdate t m x v)
    (K : Keyed P k) (ht : P.underlying t = some (.map k e)) (he : P.underlying e = some .bool) (hn : n < maxLen) (hl : ∀ x, WideAt.IsKeyLit (lit x)) (hinj : ∀ x y, lit x = lit y → x = y) (hm : a.eval m = .map (some b)) (hv : a.eval v = .bool true) (h : SetM P k e lit ok w b n S) (y : α) (hy : ok y) {key : Value} (hx : a.eval x = key) (hkey : keyOf P k key = some (lit y))
    (hK : ∀ w', SetM P k e lit ok w' b (n + 1) (S ++ [y]) → w.grownBy w' (some b) → wpList P ops Q rest (a.put o.dst undef) w') : wpList P ops Q (o :: rest) a w := by
  obtain ⟨w', hrun, h1, h2⟩ := h.add K ht he hn hl hinj hy hkey
  refine wpList_plain hg fun K' hK' => ?_
  unfold Oper.wp
  simp [execOp, hop, hm, hx, hv, hrun, Result.andThen]
  exact hK' _ _ (hK w' h1 h2)
end

def rep {α : Type} [DecidableEq α] (L : List α) : Bool := !decide L.Nodup
theorem rep_hit {α : Type} [DecidableEq α] {L : List α} {k : Nat} (hk : k < L.length) (h : L[k] ∈ L.take k) : rep L = true := by
  unfold rep
  rw [Bool.not_eq_true', decide_eq_false_iff_not]
  intro hn
  have e : L = L.take k ++ L[k] :: L.drop (k + 1) := by rw [← List.drop_eq_getElem_cons hk, List.take_append_drop]
  rw [e, List.nodup_append] at hn
  exact hn.2.2 L[k] h L[k] List.mem_cons_self rfl
theorem rep_step {α : Type} [DecidableEq α] {L : List α} {k : Nat} (hk : k < L.length) (h : ¬ L[k] ∈ L.take k) (hn : (L.take k).Nodup) : (L.take (k + 1)).Nodup := by
  rw [List.take_succ_eq_append_getElem hk, List.nodup_append]
  refine ⟨hn, by simp, fun a ha b hb => ?_⟩
  simp at hb
  subst hb
  rintro rfl
  exact h ha
theorem rep_end {α : Type} [DecidableEq α] {L : List α} {k : Nat} (hk : L.length ≤ k) (hn : (L.take k).Nodup) : rep L = false := by
  rw [List.take_of_length_le hk] at hn
  unfold rep
  simp [hn]
theorem grown_kp {w w' wr : World} {b : Nat} (h : Kp w wr) (hg : wr.grownBy w' (some b)) (hb : w.heap.size ≤ b) : Kp w w' :=
  Upd.trans h (T := fun k => some k = some b) ⟨hg.os, hg.tape, hg.output, hg.size, fun k hk hs => hg.block k hk (fun e => hs (by rw [e]))⟩ (fun k hk e => by cases e; omega)

theorem zero_bool (w : World) : (zeroValue 4).run Try.prog w = .ok (.bool false) w := by kernel_rfl
def okI (x : Int) : Prop := in64 x
def okS (l : List UInt8) : Prop := l.length ≤ maxLen
theorem okI_wf {x : Int} (h : in64 x) : (Lit.int .i64 x).wf = true := by
  have h1 : IntKind.i64.min = -9223372036854775808 := rfl
  have h2 : IntKind.i64.max = 9223372036854775807 := rfl
  simp only [Lit.wf, Bool.and_eq_true, decide_eq_true_eq, h1, h2]
  exact h
theorem keyI {x : Int} (h : in64 x) : keyOf Try.prog 3 (.int .i64 x) = some (.int .i64 x) := keyOf_int_mk Try.underlying3 (okI_wf h)
theorem keyS {l : List UInt8} (h : okS l) : keyOf Try.prog 9 (.string ⟨l.toArray⟩) = some (.string l) := by
  rw [Go.WideMaps.keyOf_string_mk Try.underlying9 (by unfold okS at h; simpa [ByteArray.size] using h)]
theorem keyI_lit : ∀ x, WideAt.IsKeyLit (Lit.int .i64 x) := fun _ => trivial
theorem keyI_inj : ∀ x y, Lit.int .i64 x = Lit.int .i64 y → x = y := fun _ _ h => by cases h; rfl
theorem keyS_lit : ∀ x, WideAt.IsKeyLit (Lit.string x) := fun _ => trivial
theorem keyS_inj : ∀ x y, Lit.string x = Lit.string y → x = y := fun _ _ h => by cases h; rfl
theorem lawI : Keyed Try.prog 3 := int_keyed Try.underlying3
theorem lawS : Keyed Try.prog 9 := string_keyed Try.underlying9

set_option maxHeartbeats 1000000 in
theorem twiceI_any (w : World) (v : Value) (L : List Int) (h : Nums w v L) (hL : L.length ≤ 1000000000) (hok : ∀ x, x ∈ L → in64 x) : Calls Try.prog 57 #[v] w (Gives w (.bool (rep L))) := by
  obtain ⟨A, c, rfl, hA⟩ := h
  have H := Lib.hid hA
  obtain ⟨n, hn⟩ : ∃ n, n = L.length := ⟨_, rfl⟩
  rw [← hn] at hL ⊢
  have HN := Lib.hid hn
  have HO := Lib.hid hok
  clear hA hn hok
  have hmm := @run_makeMap Try.prog
  go_enter Try.func57, Try.ntmps57
  go_wp2
  go_loopw [5, 9] (fun _ v wr => ∃ k : Nat, k ≤ n ∧ v = .int .i64 k ∧ (L.take k).Nodup ∧ SetM Try.prog 3 4 (Lit.int .i64) in64 wr w.heap.size k (L.take k) ∧ Kp w wr) (fun _ v _ => n - (intOf v).toNat)
  case atStart => exact ⟨0, Nat.zero_le _, rfl, by simp, SetM.made w, (Upd.refl _ w).alloc _⟩
  case round =>
    obtain ⟨k, hk, rfl, ht, hs, hu⟩ := hrel
    have HT := Lib.hid ht
    have HU := Lib.hid hu
    have HS := Lib.hid hs
    clear ht hu hs
    by_cases hlt : k < n
    · have hkl : k < L.length := by have := HN.out; omega
      obtain ⟨g, o, rfl, hc⟩ := (H.out.upd HU.out).at1 hkl
      have hin := HO.out L[k] (List.getElem_mem _)
      obtain ⟨x, hx⟩ : ∃ x, x = L[k] := ⟨_, rfl⟩
      rw [← hx] at hc hin
      have HX := Lib.hid hx
      have HI := Lib.hid hin
      clear hx hin
      have hk0 : (0 : Int) ≤ k := by omega
      have hk1 : (k : Int) < n := by omega
      have HKM : Hid (k < maxLen) := Lib.hid (by unfold maxLen; omega)
      by_cases hmem : x ∈ L.take k
      · have HM := Lib.hid hmem
        clear hmem
        go_wp2_with (at_lookup; refine wpList_set_has rfl _ _ rfl lawI Try.underlying90 Try.underlying4 (zero_bool _) rfl HS.out x HI.out rfl (keyI HI.out) ?_; rintro r hr; obtain rfl : r = true := hr.2 HM.out)
        go_ret
        exact ⟨by rw [rep_hit hkl (by rw [← HX.out]; exact HM.out)]; rfl, HU.out⟩
      · have HM := Lib.hid hmem
        clear hmem
        go_wp2_with (first
          | (at_lookup; refine wpList_set_has rfl _ _ rfl lawI Try.underlying90 Try.underlying4 (zero_bool _) rfl HS.out x HI.out rfl (keyI HI.out) ?_; rintro r hr; obtain rfl : r = false := Bool.eq_false_iff.2 (fun h => HM.out (hr.1 h)))
          | (at_mapUpdate; refine wpList_set_add rfl _ _ _ rfl lawI Try.underlying90 Try.underlying4 HKM.out keyI_lit keyI_inj rfl rfl HS.out x HI.out rfl (keyI HI.out) ?_; intro w1 hs1 hg1; have HS1 := Lib.hid hs1; have HG1 := Lib.hid hg1; clear hs1 hg1))
        go_roundw
        case rel =>
          refine ⟨k + 1, by omega, by go_num, rep_step hkl (by rw [← HX.out]; exact HM.out) HT.out, ?_, grown_kp HU.out HG1.out (Nat.le_refl _)⟩
          rw [List.take_succ_eq_append_getElem hkl, ← HX.out]
          exact HS1.out
        case measure => simp [intOf]; omega
    · have hkn : k = n := by omega
      subst hkn
      go_wp2
      go_ret
      exact ⟨by rw [rep_end (by rw [← HN.out]; exact Nat.le_refl _) HT.out]; rfl, HU.out⟩
set_option maxHeartbeats 1000000 in
theorem twiceS_any (w : World) (v : Value) (L : List (List UInt8)) (h : Strs w v L) (hL : L.length ≤ 1000000000) (hok : ∀ x, x ∈ L → okS x) : Calls Try.prog 72 #[v] w (Gives w (.bool (rep L))) := by
  obtain ⟨A, c, rfl, hA⟩ := h
  have H := Lib.hid hA
  obtain ⟨n, hn⟩ : ∃ n, n = L.length := ⟨_, rfl⟩
  rw [← hn] at hL ⊢
  have HN := Lib.hid hn
  have HO := Lib.hid hok
  clear hA hn hok
  have hmm := @run_makeMap Try.prog
  go_enter Try.func72, Try.ntmps72
  go_wp2
  go_loopw [5, 9] (fun _ v wr => ∃ k : Nat, k ≤ n ∧ v = .int .i64 k ∧ (L.take k).Nodup ∧ SetM Try.prog 9 4 Lit.string okS wr w.heap.size k (L.take k) ∧ Kp w wr) (fun _ v _ => n - (intOf v).toNat)
  case atStart => exact ⟨0, Nat.zero_le _, rfl, by simp, SetM.made w, (Upd.refl _ w).alloc _⟩
  case round =>
    obtain ⟨k, hk, rfl, ht, hs, hu⟩ := hrel
    have HT := Lib.hid ht
    have HU := Lib.hid hu
    have HS := Lib.hid hs
    clear ht hu hs
    by_cases hlt : k < n
    · have hkl : k < L.length := by have := HN.out; omega
      obtain ⟨g, o, rfl, hc⟩ := (H.out.upd HU.out).at1 hkl
      have hin := HO.out L[k] (List.getElem_mem _)
      obtain ⟨x, hx⟩ : ∃ x, x = L[k] := ⟨_, rfl⟩
      rw [← hx] at hc hin
      have HX := Lib.hid hx
      have HI := Lib.hid hin
      clear hx hin
      have hk0 : (0 : Int) ≤ k := by omega
      have hk1 : (k : Int) < n := by omega
      have HKM : Hid (k < maxLen) := Lib.hid (by unfold maxLen; omega)
      by_cases hmem : x ∈ L.take k
      · have HM := Lib.hid hmem
        clear hmem
        go_wp2_with (at_lookup; refine wpList_set_has (lit := Lit.string) (ok := okS) rfl _ _ rfl lawS Try.underlying118 Try.underlying4 (zero_bool _) rfl HS.out x HI.out rfl (keyS HI.out) ?_; rintro r hr; obtain rfl : r = true := hr.2 HM.out)
        go_ret
        exact ⟨by rw [rep_hit hkl (by rw [← HX.out]; exact HM.out)]; rfl, HU.out⟩
      · have HM := Lib.hid hmem
        clear hmem
        go_wp2_with (first
          | (at_lookup; refine wpList_set_has (lit := Lit.string) (ok := okS) rfl _ _ rfl lawS Try.underlying118 Try.underlying4 (zero_bool _) rfl HS.out x HI.out rfl (keyS HI.out) ?_; rintro r hr; obtain rfl : r = false := Bool.eq_false_iff.2 (fun h => HM.out (hr.1 h)))
          | (at_mapUpdate; refine wpList_set_add (lit := Lit.string) (ok := okS) rfl _ _ _ rfl lawS Try.underlying118 Try.underlying4 HKM.out keyS_lit keyS_inj rfl rfl HS.out x HI.out rfl (keyS HI.out) ?_; intro w1 hs1 hg1; have HS1 := Lib.hid hs1; have HG1 := Lib.hid hg1; clear hs1 hg1))
        go_roundw
        case rel =>
          refine ⟨k + 1, by omega, by go_num, rep_step hkl (by rw [← HX.out]; exact HM.out) HT.out, ?_, grown_kp HU.out HG1.out (Nat.le_refl _)⟩
          rw [List.take_succ_eq_append_getElem hkl, ← HX.out]
          exact HS1.out
        case measure => simp [intOf]; omega
    · have hkn : k = n := by omega
      subst hkn
      go_wp2
      go_ret
      exact ⟨by rw [rep_end (by rw [← HN.out]; exact Nat.le_refl _) HT.out]; rfl, HU.out⟩

set_option maxHeartbeats 1000000 in
theorem same_any (w : World) (v : Value) (L : List Int) (h : Nums w v L) (hL : L.length ≤ 1000000000) : Calls Try.prog 33 #[v] w (Gives w (.bool (rep L))) := by
  obtain ⟨A, c, rfl, hA⟩ := h
  have H := Lib.hid hA
  obtain ⟨n, hn⟩ : ∃ n, n = L.length := ⟨_, rfl⟩
  rw [← hn] at hL ⊢
  have HN := Lib.hid hn
  clear hA hn
  go_enter Try.func33, Try.ntmps33
  go_wp2
  go_loopw [3, 4] (fun v _ wr => ∃ k : Nat, k ≤ n ∧ v = .int .i64 k ∧ (L.take k).Nodup ∧ Kp w wr) (fun v _ _ => n - (intOf v).toNat)
  case atStart => exact ⟨0, Nat.zero_le _, rfl, by simp, Upd.refl _ w⟩
  case round =>
    obtain ⟨k, hk, rfl, ht, hu⟩ := hrel
    have HT := Lib.hid ht
    have HU := Lib.hid hu
    clear ht hu
    by_cases hlt : k < n
    · have hkl : k < L.length := by have := HN.out; omega
      have hk0 : (0 : Int) ≤ k := by omega
      have hk1 : (k : Int) < n := by omega
      obtain ⟨wo, rfl⟩ : ∃ wo : World, wo = wr := ⟨_, rfl⟩
      go_wp2
      go_loopw [4] (fun v wr => ∃ j : Nat, j ≤ k ∧ v = .int .i64 j ∧ (∀ i, ∀ hi : i < L.length, i < j → L[i] ≠ L[k]) ∧ Kp w wr) (fun v _ => k - (intOf v).toNat)
      case atStart => exact ⟨0, Nat.zero_le _, rfl, by omega, HU.out⟩
      case round =>
        obtain ⟨j, hj, rfl, hne, hu⟩ := hrel
        have HNE := Lib.hid hne
        have HU2 := Lib.hid hu
        clear hne hu
        by_cases hlt2 : j < k
        · have hjl : j < L.length := by omega
          obtain ⟨g, o, hA1, hc1⟩ := (H.out.upd HU2.out).at1 hkl
          obtain ⟨g2, o2, hA2, hc2⟩ := (H.out.upd HU2.out).at1 hjl
          subst hA1
          cases hA2
          have hj0 : (0 : Int) ≤ j := by omega
          have hj1 : (j : Int) < k := by omega
          have hj2 : (j : Int) < n := by omega
          obtain ⟨x, hx⟩ : ∃ x, x = L[k] := ⟨_, rfl⟩
          obtain ⟨y, hy⟩ : ∃ y, y = L[j] := ⟨_, rfl⟩
          rw [← hx] at hc1
          rw [← hy] at hc2
          have HX := Lib.hid hx
          have HY := Lib.hid hy
          clear hx hy
          by_cases hxy : y = x
          · subst hxy
            go_wp2
            go_region_held3 (fun w' => w'.cell? ⟨g, o + k, none⟩ = some (.int .i64 y) ∧ w'.cell? ⟨g, o + j, none⟩ = some (.int .i64 y)) (go_keep) (fail)
            go_wp2
            go_ret
            refine ⟨?_, HU2.out.drew⟩
            rw [rep_hit hkl (by rw [← HX.out, HY.out]; exact List.mem_take_iff_getElem.2 ⟨j, by omega, rfl⟩)]
            rfl
          · have hxb : (y == x) = false := by simpa using hxy
            have HXY := Lib.hid hxy
            clear hxy
            go_wp2
            go_region_held3 (fun w' => w'.cell? ⟨g, o + k, none⟩ = some (.int .i64 x) ∧ w'.cell? ⟨g, o + j, none⟩ = some (.int .i64 y)) (go_keep) (fail)
            go_wp2
            go_roundw
            case rel =>
              refine ⟨j + 1, by omega, by go_num, fun i hi hij => ?_, HU2.out.drew⟩
              rcases Nat.lt_or_ge i j with h | h
              · exact HNE.out i hi h
              · obtain rfl : i = j := by omega
                rw [← HX.out, ← HY.out]
                exact HXY.out
            case measure => simp [intOf]; omega
        · have hjk : j = k := by omega
          subst hjk
          go_wp2
          go_roundw
          case rel =>
            refine ⟨j + 1, by omega, by go_num, rep_step hkl (fun hm => ?_) HT.out, HU2.out⟩
            obtain ⟨i, hi, he⟩ := List.mem_take_iff_getElem.1 hm
            exact HNE.out i (by omega) (by omega) he
          case measure => simp [intOf]; omega
    · have hkn : k = n := by omega
      subst hkn
      go_wp2
      go_ret
      exact ⟨by rw [rep_end (by rw [← HN.out]; exact Nat.le_refl _) HT.out]; rfl, HU.out⟩

set_option maxHeartbeats 1000000 in
theorem rtwice_any (w : World) (v : Value) (L : List (List UInt8)) (h : Strs w v L) (hL : L.length ≤ 1000000000) : Calls Try.prog 46 #[v] w (Gives w (.bool (rep L))) := by
  obtain ⟨A, c, rfl, hA⟩ := h
  have H := Lib.hid hA
  obtain ⟨n, hn⟩ : ∃ n, n = L.length := ⟨_, rfl⟩
  rw [← hn] at hL ⊢
  have HN := Lib.hid hn
  clear hA hn
  go_enter Try.func46, Try.ntmps46
  go_wp2
  go_loopw [3, 4] (fun v _ wr => ∃ k : Nat, k ≤ n ∧ v = .int .i64 k ∧ (L.take k).Nodup ∧ Kp w wr) (fun v _ _ => n - (intOf v).toNat)
  case atStart => exact ⟨0, Nat.zero_le _, rfl, by simp, Upd.refl _ w⟩
  case round =>
    obtain ⟨k, hk, rfl, ht, hu⟩ := hrel
    have HT := Lib.hid ht
    have HU := Lib.hid hu
    clear ht hu
    by_cases hlt : k < n
    · have hkl : k < L.length := by have := HN.out; omega
      have hk0 : (0 : Int) ≤ k := by omega
      have hk1 : (k : Int) < n := by omega
      obtain ⟨wo, rfl⟩ : ∃ wo : World, wo = wr := ⟨_, rfl⟩
      go_wp2
      go_loopw [4] (fun v wr => ∃ j : Nat, j ≤ k ∧ v = .int .i64 j ∧ (∀ i, ∀ hi : i < L.length, i < j → L[i] ≠ L[k]) ∧ Kp w wr) (fun v _ => k - (intOf v).toNat)
      case atStart => exact ⟨0, Nat.zero_le _, rfl, by omega, HU.out⟩
      case round =>
        obtain ⟨j, hj, rfl, hne, hu⟩ := hrel
        have HNE := Lib.hid hne
        have HU2 := Lib.hid hu
        clear hne hu
        by_cases hlt2 : j < k
        · have hjl : j < L.length := by omega
          obtain ⟨g, o, hA1, hc1⟩ := (H.out.upd HU2.out).at1 hkl
          obtain ⟨g2, o2, hA2, hc2⟩ := (H.out.upd HU2.out).at1 hjl
          subst hA1
          cases hA2
          have hj0 : (0 : Int) ≤ j := by omega
          have hj1 : (j : Int) < k := by omega
          have hj2 : (j : Int) < n := by omega
          obtain ⟨x, hx⟩ : ∃ x, x = L[k] := ⟨_, rfl⟩
          obtain ⟨y, hy⟩ : ∃ y, y = L[j] := ⟨_, rfl⟩
          rw [← hx] at hc1
          rw [← hy] at hc2
          have HX := Lib.hid hx
          have HY := Lib.hid hy
          clear hx hy
          by_cases hxy : y = x
          · subst hxy
            go_wp2
            go_region_held3 (fun w' => w'.cell? ⟨g, o + k, none⟩ = some (.string ⟨y.toArray⟩) ∧ w'.cell? ⟨g, o + j, none⟩ = some (.string ⟨y.toArray⟩)) (go_keep) (fail)
            go_wp2
            go_ret
            refine ⟨?_, HU2.out.drew⟩
            rw [rep_hit hkl (by rw [← HX.out, HY.out]; exact List.mem_take_iff_getElem.2 ⟨j, by omega, rfl⟩)]
            rfl
          · have hxb : (y == x) = false := by simpa using hxy
            have HXY := Lib.hid hxy
            clear hxy
            go_wp2
            go_region_held3 (fun w' => w'.cell? ⟨g, o + k, none⟩ = some (.string ⟨x.toArray⟩) ∧ w'.cell? ⟨g, o + j, none⟩ = some (.string ⟨y.toArray⟩)) (go_keep) (fail)
            go_wp2
            go_roundw
            case rel =>
              refine ⟨j + 1, by omega, by go_num, fun i hi hij => ?_, HU2.out.drew⟩
              rcases Nat.lt_or_ge i j with h | h
              · exact HNE.out i hi h
              · obtain rfl : i = j := by omega
                rw [← HX.out, ← HY.out]
                exact HXY.out
            case measure => simp [intOf]; omega
        · have hjk : j = k := by omega
          subst hjk
          go_wp2
          go_roundw
          case rel =>
            refine ⟨j + 1, by omega, by go_num, rep_step hkl (fun hm => ?_) HT.out, HU2.out⟩
            obtain ⟨i, hi, he⟩ := List.mem_take_iff_getElem.1 hm
            exact HNE.out i (by omega) (by omega) he
          case measure => simp [intOf]; omega
    · have hkn : k = n := by omega
      subst hkn
      go_wp2
      go_ret
      exact ⟨by rw [rep_end (by rw [← HN.out]; exact Nat.le_refl _) HT.out]; rfl, HU.out⟩
end Go.Proofs.Ytaejnhgnacgheaa
