/- A region that draws its order and holds calls that go on with something (a reader, a counter): these calls stand in a fixed order; a condition on the world is numbered by how many of them have been made. By one statement an operation, as in XAny. No program in sight. -/
import Derived.Test.YtaejnhgnacgheaaAny3
namespace Go.Proofs.Ytaejnhgnacgheaa
set_option linter.unusedVariables false
set_option linter.unusedSimpArgs false
open Go.RowKit

/-- what an operation has yielded meets the slot's condition; the world goes from phase n to phase m -/
def LeavesI (R : World → World → Prop) (J : World → Prop) (P : Program) (spec : Tmp → Value → World → Prop) (o : Oper) (w : World) : Result Next → Prop
  | .ok (.value v) w' => (R w w' ∧ J w') ∧ ∀ d, o.dst = some d → spec d v w'
  | .ok .skip w' => (R w w' ∧ J w') ∧ ∀ d, o.dst = some d → spec d undef w'
  | .ok (.enter f args) w' => Calls P f args w' fun e w'' => ∃ v, e = .returned v ∧ (R w w'' ∧ J w'') ∧ ∀ d, o.dst = some d → spec d v w''
  | _ => False
/-- one operation, behind the operations whose slots are ds; c: its place among the calls that go on -/
def StepOkI (R : World → World → Prop) (I : Nat → World → Prop) (P : Program) (ops : Array Oper) (a : Act) (dl : List Tmp) (spec : Tmp → Value → World → Prop) (w0 : World) (o : Oper) (c : Option Nat) (ds : List Tmp) : Prop :=
  ∀ n a' w, (∀ p, c = some p → n = p) → SameBut dl a a' → R w0 w → I n w → (∀ t, t ∈ ds → spec t (a'.eval (.tmp t)) w) →
    if Region.wanted o (yielded ops a'.tmps) = true then LeavesI R (I (if c = none then n else n + 1)) P spec o w ((execOp a'.eval o).run P w) else (c = none ∧ ∀ d, o.dst = some d → spec d undef w)
def AllStepsI (R : World → World → Prop) (I : Nat → World → Prop) (P : Program) (ops : Array Oper) (a : Act) (dl : List Tmp) (spec : Tmp → Value → World → Prop) (w0 : World) : List Oper → List (Option Nat × List Tmp) → Prop
  | o :: os, ds :: dss => StepOkI R I P ops a dl spec w0 o ds.1 ds.2 ∧ AllStepsI R I P ops a dl spec w0 os dss
  | _, _ => True
/-- the calls that go on: where they stand, each waits for the one before it -/
def seqB (ops : Array Oper) (cs : List (Option Nat)) (calls : List Nat) : Bool :=
  (List.range cs.length).all (fun i => match cs.getD i none with | some p => calls[p]? == some i | none => !calls.contains i) &&
  (List.range calls.length).all (fun p => cs.getD (calls.getD p 0) none == some p && (p == 0 || match ops[calls.getD p 0]? with | some o => o.after.any (fun e => Region.binds .any e && e.on == calls.getD (p - 1) 0) | none => false))
section
variable {R : World → World → Prop} {I : Nat → World → Prop} {P : Program} {ops : Array Oper} {a : Act} {dl : List Tmp} {spec : Tmp → Value → World → Prop} {w0 : World}
theorem AllStepsI.at_ : ∀ {os : List Oper} {dss : List (Option Nat × List Tmp)}, AllStepsI R I P ops a dl spec w0 os dss → os.length = dss.length → ∀ i o, os[i]? = some o → StepOkI R I P ops a dl spec w0 o (dss.getD i (none, [])).1 (dss.getD i (none, [])).2
  | [], _, _, _, i, o, h => by simp at h
  | _ :: _, [], _, hl, _, _, _ => by simp at hl
  | o' :: os, ds :: dss, h, hl, 0, o, ho => by simp at ho; subst ho; simpa using h.1
  | o' :: os, ds :: dss, h, hl, i + 1, o, ho => by
    simp at ho hl
    simpa using AllStepsI.at_ h.2 hl i o ho
/-- A REGION THAT DRAWS ITS ORDER. -/
theorem wp_region_seq {id : Nat} {Q : Exit → Act → World → Prop} (hm : P.follows .mixedOrders = true) (hrefl : ∀ w, R w w) (htr : ∀ a b c, R a b → R b c → R a c) (hdrew : R w0 { w0 with drawn := w0.drawn + 1 }) (hI0 : I 0 { w0 with drawn := w0.drawn + 1 }) (calls : List Nat) (dcs : List (Option Nat × List Tmp)) (hfit : fitsB ops dl (dcs.map (·.2)) = true) (hseq : seqB ops (dcs.map (·.1)) calls = true) (hszB : (dl.all fun d => decide (d < a.tmps.size)) = true)
    (hstab : ∀ d v w w', spec d v w → R w w' → spec d v w') (hstep : AllStepsI R I P ops a dl spec w0 ops.toList dcs)
    (hend : ∀ a' w, SameBut dl a a' → R w0 w → I calls.length w → (∀ (i : Nat) (o : Oper) (d : Tmp), ops[i]? = some o → o.dst = some d → spec d (a'.eval (.tmp d)) w) → Q .normal a' w) :
    (Code.region id ops true).wp P Q a w0 := by
  have hsz : ∀ d, d ∈ dl → d < a.tmps.size := fun d hd => of_decide_eq_true (List.all_eq_true.1 hszB d hd)
  unfold fitsB at hfit
  rw [Bool.and_eq_true, List.all_eq_true] at hfit
  obtain ⟨hlen, hfit⟩ := hfit
  obtain ⟨dss, hdss⟩ : ∃ x, x = dcs.map (·.2) := ⟨_, rfl⟩
  rw [← hdss] at hlen hfit
  have hlen' : dss.length = ops.size := by simpa using hlen
  have hlenc : dcs.length = ops.size := by rw [hdss] at hlen'; simpa using hlen'
  have hF : ∀ i o, ops[i]? = some o → (∀ d, o.dst = some d → d ∈ dl) ∧ (∀ e ∈ o.after, e.on < i) ∧ ∀ t, t ∈ dss.getD i [] → ∃ e ∈ o.after, Region.binds .any e = true ∧ ∃ o', ops[e.on]? = some o' ∧ o'.dst = some t := by
    intro i o ho
    have hi := (Array.getElem?_eq_some_iff.1 ho).1
    have h := hfit i (List.mem_range.2 hi)
    simp only [ho, Bool.and_eq_true] at h
    obtain ⟨⟨h1, h2⟩, h3⟩ := h
    refine ⟨fun d hd => ?_, fun e he => ?_, fun t ht => ?_⟩
    · rw [hd] at h1
      simpa using h1
    · have := Array.all_eq_true_iff_forall_mem.1 h2 e he
      simpa using this
    · have h4 := List.all_eq_true.1 h3 t ht
      obtain ⟨j, hj, h5⟩ := Array.any_eq_true.1 h4
      rw [Bool.and_eq_true] at h5
      refine ⟨o.after[j], Array.getElem_mem _, h5.1, ?_⟩
      have h6 := h5.2
      split at h6
      · rename_i o' ho'
        exact ⟨o', ho', by simpa using h6⟩
      · cases h6
  unfold seqB at hseq
  rw [Bool.and_eq_true, List.all_eq_true, List.all_eq_true] at hseq
  obtain ⟨hs1, hs2⟩ := hseq
  have hc1 : ∀ (i p : Nat), i < ops.size → (dcs.map (·.1)).getD i none = some p → calls[p]? = some i := by
    intro i p hi h
    have h1 := hs1 i (List.mem_range.2 (by simpa [hlenc] using hi))
    rw [h] at h1
    simpa using h1
  have hc0 : ∀ (i q : Nat), i < ops.size → (dcs.map (·.1)).getD i none = none → calls[q]? ≠ some i := by
    intro i q hi h hq
    have h1 := hs1 i (List.mem_range.2 (by simpa [hlenc] using hi))
    rw [h] at h1
    have h2 : i ∈ calls := List.mem_of_getElem? hq
    simp [h2] at h1
  have hc2 : ∀ (p i : Nat), calls[p]? = some i → (dcs.map (·.1)).getD i none = some p ∧ (p ≠ 0 → ∃ o j, ops[i]? = some o ∧ calls[p - 1]? = some j ∧ ∃ e ∈ o.after, Region.binds .any e = true ∧ e.on = j) := by
    intro p i h
    have hp := (List.getElem?_eq_some_iff.1 h).1
    have h1 := hs2 p (List.mem_range.2 hp)
    have hg : calls.getD p 0 = i := by rw [List.getD_eq_getElem?_getD, h]; rfl
    rw [hg, Bool.and_eq_true] at h1
    refine ⟨by simpa using h1.1, fun hp0 => ?_⟩
    have h3 := h1.2
    rw [Bool.or_eq_true] at h3
    rcases h3 with h3 | h3
    · exact absurd (by simpa using h3) hp0
    · split at h3
      · rename_i o ho
        obtain ⟨x, hx, h4⟩ := Array.any_eq_true.1 h3
        rw [Bool.and_eq_true] at h4
        have hp1 : p - 1 < calls.length := by omega
        refine ⟨o, calls[p - 1], ho, List.getElem?_eq_getElem hp1, o.after[x], Array.getElem_mem _, h4.1, ?_⟩
        have h5 := h4.2
        rw [List.getD_eq_getElem?_getD, List.getElem?_eq_getElem hp1] at h5
        simpa using h5
      · cases h3
  refine wp_region_any hm ?_
  have main : ∀ (fuel : Nat) (listed : Array Bool) (n : Nat) (a' : Act) (w : World), listed.size = ops.size → SameBut dl a a' → R w0 w → (I n w ∧ n ≤ calls.length ∧ ∀ (q i : Nat), calls[q]? = some i → (listed.getD i false = true ↔ q < n)) →
      (∀ (j : Nat) (o : Oper) (d : Tmp), listed.getD j false = true → ops[j]? = some o → o.dst = some d → spec d (a'.eval (.tmp d)) w) →
      (List.range ops.size).countP (fun j => !listed.getD j true) ≤ fuel → wpAny P .any ops Q fuel listed a' w := by
    have hdone : ∀ (listed : Array Bool) (n : Nat) (a' : Act) (w : World), listed.size = ops.size → SameBut dl a a' → R w0 w → (I n w ∧ n ≤ calls.length ∧ ∀ (q i : Nat), calls[q]? = some i → (listed.getD i false = true ↔ q < n)) →
        (∀ (j : Nat) (o : Oper) (d : Tmp), listed.getD j false = true → ops[j]? = some o → o.dst = some d → spec d (a'.eval (.tmp d)) w) → Region.ready .any ops listed = [] → Q .normal a' w := by
      intro listed n a' w hls hsb hu hI hsp hr
      have hall : ∀ n j, j < n → j < ops.size → listed.getD j false = true := by
        intro n
        induction n with
        | zero => intro j hj; omega
        | succ n ih =>
          intro j hj hjs
          cases hl : listed.getD j false with
          | true => rfl
          | false =>
            exfalso
            have hmem : j ∈ Region.ready .any ops listed := by
              refine mem_ready.2 ⟨?_, ops[j], Array.getElem?_eq_getElem hjs, fun e he _ => ?_⟩
              · have hjl : j < listed.size := Nat.lt_of_lt_of_eq hjs hls.symm
                simp only [Array.getD, hjl, dite_true] at hl ⊢
                exact hl
              · have := (hF j ops[j] (Array.getElem?_eq_getElem hjs)).2.1 e he
                exact ih e.on (Nat.lt_of_lt_of_le this (Nat.le_of_lt_succ hj)) (Nat.lt_trans this hjs)
            rw [hr] at hmem
            cases hmem
      have hn : n = calls.length := by
        rcases Nat.lt_or_ge n calls.length with h | h
        · exfalso
          have h1 := List.getElem?_eq_getElem h
          obtain ⟨h2, _⟩ := hc2 n calls[n] h1
          have h3 : calls[n] < ops.size := by
            rcases Nat.lt_or_ge calls[n] ops.size with h4 | h4
            · exact h4
            · rw [List.getD_eq_getElem?_getD, List.getElem?_eq_none (by simpa [hlenc] using h4)] at h2
              cases h2
          have h5 := (hI.2.2 n _ h1).1 (hall (calls[n] + 1) calls[n] (by omega) h3)
          omega
        · have := hI.2.1; omega
      subst hn
      refine hend a' w hsb hu hI.1 (fun i o d ho hd => ?_)
      exact hsp i o d (hall (i + 1) i (by omega) (Array.getElem?_eq_some_iff.1 ho).1) ho hd
    intro fuel
    induction fuel with
    | zero =>
      intro listed n a' w hls hsb hu hI hsp hc
      have hr : Region.ready .any ops listed = [] := by
        apply List.eq_nil_iff_forall_not_mem.2
        intro j hj
        obtain ⟨h1, o, ho, _⟩ := mem_ready.1 hj
        have hj2 := (Array.getElem?_eq_some_iff.1 ho).1
        have : 0 < (List.range ops.size).countP (fun j => !listed.getD j true) := List.countP_pos_iff.2 ⟨j, List.mem_range.2 hj2, by simp [h1]⟩
        omega
      exact ⟨hr, hdone listed n a' w hls hsb hu hI hsp hr⟩
    | succ fuel ih =>
      intro listed n a' w hls hsb hu hI hsp hc
      refine ⟨hdone listed n a' w hls hsb hu hI hsp, fun i hi => ?_⟩
      obtain ⟨hun, o, ho, hdep⟩ := mem_ready.1 hi
      have hi2 := (Array.getElem?_eq_some_iff.1 ho).1
      obtain ⟨hF1, hF2, hF3⟩ := hF i o ho
      obtain ⟨c, hcd⟩ : ∃ c, c = (dcs.getD i (none, [])).1 := ⟨_, rfl⟩
      have hcg : (dcs.map (·.1)).getD i none = c := by
        rw [hcd, List.getD_eq_getElem?_getD, List.getD_eq_getElem?_getD, List.getElem?_map]
        cases dcs[i]? <;> rfl
      have hdg : dss.getD i [] = (dcs.getD i (none, [])).2 := by
        rw [hdss, List.getD_eq_getElem?_getD, List.getD_eq_getElem?_getD, List.getElem?_map]
        cases dcs[i]? <;> rfl
      have hpn : ∀ p, c = some p → n = p := by
        intro p hp
        rw [hp] at hcg
        have h1 := hc1 i p hi2 hcg
        have h2 : ¬ p < n := fun h => by
          have h3 := (hI.2.2 p i h1).2 h
          have hil : i < listed.size := by omega
          simp only [Array.getD, hil, dite_true] at h3 hun
          rw [hun] at h3; cases h3
        rcases Nat.eq_zero_or_pos p with h0 | h0
        · subst h0
          rcases Nat.eq_zero_or_pos n with hn | hn
          · exact hn
          · omega
        · obtain ⟨_, h4⟩ := hc2 p i h1
          obtain ⟨o2, j, ho2, hj, e, he, hb, hej⟩ := h4 (by omega)
          rw [ho] at ho2
          cases ho2
          have h5 := hdep e he hb
          rw [hej] at h5
          have h6 := (hI.2.2 (p - 1) j hj).1 h5
          omega
      have hst := hstep.at_ (by simp [hlenc]) i o (by simpa using ho) n a' w (by rw [← hcd]; exact hpn) hsb hu hI.1 (fun t ht => by
        rw [← hdg] at ht
        obtain ⟨e, he, hb, o', ho', hd'⟩ := hF3 t ht
        exact hsp e.on o' t (hdep e he hb) ho' hd')
      rw [← hcd] at hst
      have next : ∀ v w', (R w w' ∧ I (if c = none then n else n + 1) w') → (∀ d, o.dst = some d → spec d v w') → wpAny P .any ops Q fuel (listed.setIfInBounds i true) (a'.put o.dst v) w' := by
        intro v w' hkI hv
        obtain ⟨hk, hI'⟩ := hkI
        refine ih _ (if c = none then n else n + 1) _ _ (by simpa using hls) (hsb.put hF1 v) (htr _ _ _ hu hk) ⟨hI', ?_, ?_⟩ ?_ ?_
        · cases hcc : c with
          | none => simpa using hI.2.1
          | some p =>
            rw [hcc] at hcg
            have h1 := (List.getElem?_eq_some_iff.1 (hc1 i p hi2 hcg)).1
            have h2 := hpn p hcc
            simp
            omega
        · intro q j hq
          cases hcc : c with
          | none =>
            rw [hcc] at hcg
            have hji : j ≠ i := fun e => hc0 i q hi2 hcg (by rw [← e]; exact hq)
            rw [getD_set_ne false (Ne.symm hji)]
            simpa using hI.2.2 q j hq
          | some p =>
            rw [hcc] at hcg
            have h1 := hc1 i p hi2 hcg
            have h2 := hpn p hcc
            simp only [reduceCtorEq, if_false]
            by_cases hji : j = i
            · subst hji
              have h3 := (hc2 q j hq).1
              rw [hcg] at h3
              cases h3
              have : j < listed.size := by omega
              simp [Array.getD, this]
              omega
            · rw [getD_set_ne false (Ne.symm hji), hI.2.2 q j hq]
              constructor
              · intro h; omega
              · intro h
                rcases Nat.lt_or_eq_of_le (Nat.le_of_lt_succ h) with h4 | h4
                · exact h4
                · subst h4
                  rw [h2, h1] at hq
                  cases hq
                  exact absurd rfl hji
        · intro j oj d hlj hoj hdj
          by_cases hdd : o.dst = some d
          · rw [hdd, eval_put_same (by rw [hsb.size]; exact hsz d (hF1 d hdd))]
            exact hv d hdd
          · have hji : j ≠ i := by
              rintro rfl
              rw [ho] at hoj
              cases hoj
              exact hdd hdj
            rw [getD_set_ne false (Ne.symm hji)] at hlj
            rw [Act.eval_put (fun d' hd' e => by cases e; exact hdd hd')]
            exact hstab _ _ _ _ (hsp j oj d hlj hoj hdj) hk
        · have hlt : (List.range ops.size).countP (fun j => !(listed.setIfInBounds i true).getD j true) < (List.range ops.size).countP (fun j => !listed.getD j true) := by
            refine countP_less _ (fun x hx => ?_) ⟨i, List.mem_range.2 hi2, by simp [hun], ?_⟩
            · by_cases hxi : x = i
              · subst hxi; simp [hun]
              · rw [getD_set_ne true (Ne.symm hxi)] at hx
                exact hx
            · have : i < listed.size := by omega
              simp [Array.getD, this]
          omega
      unfold wpOp
      simp only [ho]
      by_cases hw : Region.wanted o (yielded ops a'.tmps) = true
      · rw [if_pos hw] at hst ⊢
        refine .inl ?_
        unfold Oper.wp
        revert hst
        generalize (execOp a'.eval o).run P w = r
        intro hst
        cases r with
        | ok n w' =>
          cases n <;> simp only [LeavesI] at hst <;> simp only [Oper.upon]
          case value v => exact next v w' hst.1 hst.2
          case skip => exact next undef w' hst.1 hst.2
          case enter f args =>
            refine hst.mono fun e w'' he => ?_
            obtain ⟨v, rfl, hk, hv⟩ := he
            exact next v w'' hk hv
        | halt x w' => simp only [LeavesI] at hst
      · rw [if_neg hw] at hst ⊢
        exact next undef w ⟨hrefl w, by rw [hst.1]; simpa using hI.1⟩ hst.2
  refine main ops.size (Array.replicate ops.size false) 0 a { w0 with drawn := w0.drawn + 1 } (by simp) ⟨rfl, rfl, fun _ _ => rfl⟩ hdrew ⟨hI0, Nat.zero_le _, fun q i hq => ⟨fun h => ?_, fun h => by omega⟩⟩ ?_ ?_
  · exfalso
    by_cases hi : i < ops.size
    · simp [Array.getD, hi] at h
    · simp [Array.getD, hi] at h
  · intro j o d hl ho
    have hj := (Array.getElem?_eq_some_iff.1 ho).1
    simp [Array.getD, hj] at hl
  · have := List.countP_le_length (l := List.range ops.size) (p := fun j => !(Array.replicate ops.size false).getD j true)
    simpa using this
theorem leavesI_value {J : World → Prop} {o : Oper} {w w' : World} {r : Result Next} {v : Value} (h : r = .ok (.value v) w') (hk : R w w') (hj : J w') (hs : ∀ d, o.dst = some d → spec d v w') : LeavesI R J P spec o w r := by
  subst h
  exact ⟨⟨hk, hj⟩, hs⟩
theorem leavesI_call {J : World → Prop} {o : Oper} {w : World} {r : Result Next} {f : FuncId} {args : Array Value} (h : r = .ok (.enter f args) w) (hc : Calls P f args w fun e w'' => ∃ v, e = .returned v ∧ (R w w'' ∧ J w'') ∧ ∀ d, o.dst = some d → spec d v w'') : LeavesI R J P spec o w r := by
  subst h
  exact hc
end
end Go.Proofs.Ytaejnhgnacgheaa
