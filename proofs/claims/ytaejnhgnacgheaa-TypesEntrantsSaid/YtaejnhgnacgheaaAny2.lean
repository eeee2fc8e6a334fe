/- A region that draws its order and whose last operation waits for all others: these are told one by one (XAny), the last one is free: it may store. No program in sight. -/
import Derived.Test.YtaejnhgnacgheaaAny
namespace Go.Proofs.Ytaejnhgnacgheaa
set_option linter.unusedVariables false
set_option linter.unusedSimpArgs false
open Go.RowKit

/-- the last operation waits for each of the others -/
def lastB (ops : Array Oper) : Bool := match ops[ops.size - 1]? with
  | none => false
  | some o => (List.range (ops.size - 1)).all fun j => o.after.any fun e => Region.binds .any e && e.on == j
section
variable {P : Program} {ops : Array Oper} {a : Act} {dl : List Tmp} {spec : Tmp → Value → World → Prop} {w0 : World}
theorem wpAny_all {Q : Exit → Act → World → Prop} {fuel : Nat} {listed : Array Bool} {a' : Act} {w : World} (hl : ∀ j, j < ops.size → listed.getD j true = true) (h : Q .normal a' w) : wpAny P .any ops Q fuel listed a' w := by
  have hr : Region.ready .any ops listed = [] := by
    apply List.eq_nil_iff_forall_not_mem.2
    intro j hj
    obtain ⟨h1, o, ho, _⟩ := mem_ready.1 hj
    rw [hl j (Array.getElem?_eq_some_iff.1 ho).1] at h1
    cases h1
  cases fuel with
  | zero => exact ⟨hr, h⟩
  | succ fuel => exact ⟨fun _ => h, fun i hi => by rw [hr] at hi; cases hi⟩
theorem wp_region_last {id : Nat} {Q : Exit → Act → World → Prop} (hm : P.follows .mixedOrders = true) (dss : List (List Tmp)) (hfit : fitsB ops dl dss = true) (hszB : (dl.all fun d => decide (d < a.tmps.size)) = true) (hlastB : lastB ops = true)
    (hstab : ∀ d v w w', spec d v w → Kp w w' → spec d v w') (hstep : AllSteps P ops a dl spec w0 (ops.toList.take (ops.size - 1)) (dss.take (ops.size - 1)))
    (hend : ∀ (o : Oper) a' w, ops[ops.size - 1]? = some o → SameBut dl a a' → Kp w0 w → (∀ (i : Nat) (oi : Oper) (d : Tmp), i < ops.size - 1 → ops[i]? = some oi → oi.dst = some d → spec d (a'.eval (.tmp d)) w) →
      if Region.wanted o (yielded ops a'.tmps) = true then o.wp P a' w (fun a'' w'' => Q .normal a'' w'') Q else Q .normal (a'.put o.dst undef) w) :
    (Code.region id ops true).wp P Q a w0 := by
  have hsz : ∀ d, d ∈ dl → d < a.tmps.size := fun d hd => of_decide_eq_true (List.all_eq_true.1 hszB d hd)
  unfold fitsB at hfit
  rw [Bool.and_eq_true, List.all_eq_true] at hfit
  obtain ⟨hlen, hfit⟩ := hfit
  have hlen' : dss.length = ops.size := by simpa using hlen
  have hF : ∀ i o, ops[i]? = some o → (∀ d, o.dst = some d → d ∈ dl) ∧ (∀ e ∈ o.after, e.on < i) ∧ ∀ t, t ∈ dss.getD i [] → ∃ e ∈ o.after, Region.binds .any e = true ∧ ∃ o', ops[e.on]? = some o' ∧ o'.dst = some t := by
    intro i o ho
    have hi := (Array.getElem?_eq_some_iff.1 ho).1
    have h := hfit i (List.mem_range.2 hi)
    simp only [ho, Bool.and_eq_true] at h
    obtain ⟨⟨h1, h2⟩, h3⟩ := h
    refine ⟨fun d hd => ?_, fun e he => ?_, fun t ht => ?_⟩
    · rw [hd] at h1
      simpa using h1
    · have := Array.all_eq_true_iff_forall_mem.1 h2 e he
      simpa using this
    · have h4 := List.all_eq_true.1 h3 t ht
      obtain ⟨j, hj, h5⟩ := Array.any_eq_true.1 h4
      rw [Bool.and_eq_true] at h5
      refine ⟨o.after[j], Array.getElem_mem _, h5.1, ?_⟩
      have h6 := h5.2
      split at h6
      · rename_i o' ho'
        exact ⟨o', ho', by simpa using h6⟩
      · cases h6
  unfold lastB at hlastB
  split at hlastB
  · cases hlastB
  rename_i ol hol
  have hls0 := (Array.getElem?_eq_some_iff.1 hol).1
  refine wp_region_any hm ?_
  have main : ∀ (fuel : Nat) (listed : Array Bool) (a' : Act) (w : World), listed.size = ops.size → listed.getD (ops.size - 1) true = false → SameBut dl a a' → Kp w0 w →
      (∀ (j : Nat) (o : Oper) (d : Tmp), listed.getD j false = true → ops[j]? = some o → o.dst = some d → spec d (a'.eval (.tmp d)) w) →
      (List.range ops.size).countP (fun j => !listed.getD j true) ≤ fuel → wpAny P .any ops Q fuel listed a' w := by
    have hdone : ∀ (listed : Array Bool), listed.size = ops.size → listed.getD (ops.size - 1) true = false → Region.ready .any ops listed ≠ [] := by
      intro listed hls hll hr
      have hall : ∀ n j, j < n → j < ops.size → listed.getD j false = true := by
        intro n
        induction n with
        | zero => intro j hj; omega
        | succ n ih =>
          intro j hj hjs
          cases hl : listed.getD j false with
          | true => rfl
          | false =>
            exfalso
            have hmem : j ∈ Region.ready .any ops listed := by
              refine mem_ready.2 ⟨?_, ops[j], Array.getElem?_eq_getElem hjs, fun e he _ => ?_⟩
              · have hjl : j < listed.size := Nat.lt_of_lt_of_eq hjs hls.symm
                simp only [Array.getD, hjl, dite_true] at hl ⊢
                exact hl
              · have := (hF j ops[j] (Array.getElem?_eq_getElem hjs)).2.1 e he
                exact ih e.on (Nat.lt_of_lt_of_le this (Nat.le_of_lt_succ hj)) (Nat.lt_trans this hjs)
            rw [hr] at hmem
            cases hmem
      have h1 := hall ops.size (ops.size - 1) (by omega) (by omega)
      have hjl : ops.size - 1 < listed.size := by omega
      simp only [Array.getD, hjl, dite_true] at h1 hll
      rw [h1] at hll
      cases hll
    intro fuel
    induction fuel with
    | zero =>
      intro listed a' w hls hll hsb hu hsp hc
      have : 0 < (List.range ops.size).countP (fun j => !listed.getD j true) := List.countP_pos_iff.2 ⟨ops.size - 1, List.mem_range.2 hls0, by simp [hll]⟩
      omega
    | succ fuel ih =>
      intro listed a' w hls hll hsb hu hsp hc
      refine ⟨fun hr => absurd hr (hdone listed hls hll), fun i hi => ?_⟩
      obtain ⟨hun, o, ho, hdep⟩ := mem_ready.1 hi
      have hi2 := (Array.getElem?_eq_some_iff.1 ho).1
      obtain ⟨hF1, hF2, hF3⟩ := hF i o ho
      by_cases hil : i = ops.size - 1
      · subst hil
        rw [hol] at ho
        cases ho
        have hothers : ∀ j, j < ops.size - 1 → listed.getD j false = true := by
          intro j hj
          have h1 := List.all_eq_true.1 hlastB j (List.mem_range.2 hj)
          obtain ⟨x, hx, h5⟩ := Array.any_eq_true.1 h1
          rw [Bool.and_eq_true] at h5
          have h6 := hdep ol.after[x] (Array.getElem_mem _) h5.1
          have h7 : ol.after[x].on = j := by simpa using h5.2
          rw [h7] at h6
          exact h6
        have hend' := hend ol a' w hol hsb hu (fun j oj d hj hoj hdj => hsp j oj d (hothers j hj) hoj hdj)
        have hfin : ∀ a'' w'', Q .normal a'' w'' → wpAny P .any ops Q fuel (listed.setIfInBounds (ops.size - 1) true) a'' w'' := by
          intro a'' w'' hq
          refine wpAny_all (fun j hj => ?_) hq
          by_cases hjl : j = ops.size - 1
          · subst hjl
            have : ops.size - 1 < listed.size := by omega
            simp [Array.getD, this]
          · rw [getD_set_ne true (Ne.symm hjl)]
            have h8 := hothers j (by omega)
            have hjl' : j < listed.size := by omega
            simp only [Array.getD, hjl', dite_true] at h8 ⊢
            exact h8
        unfold wpOp
        simp only [hol]
        by_cases hw : Region.wanted ol (yielded ops a'.tmps) = true
        · rw [if_pos hw] at hend' ⊢
          refine .inl ?_
          exact Oper.wp_mono hfin hend'
        · rw [if_neg hw] at hend' ⊢
          exact hfin _ _ hend'
      · have hit : (ops.toList.take (ops.size - 1))[i]? = some o := by
          rw [List.getElem?_take, if_pos (by omega)]
          simpa using ho
        have hst := hstep.at_ (by simp [hlen']) i o hit a' w hsb hu (fun t ht => by
          have ht2 : t ∈ dss.getD i [] := by
            rw [List.getD_eq_getElem?_getD] at ht ⊢
            rw [List.getElem?_take, if_pos (by omega)] at ht
            exact ht
          obtain ⟨e, he, hb, o', ho', hd'⟩ := hF3 t ht2
          exact hsp e.on o' t (hdep e he hb) ho' hd')
        have next : ∀ v w', Kp w w' → (∀ d, o.dst = some d → spec d v w') → wpAny P .any ops Q fuel (listed.setIfInBounds i true) (a'.put o.dst v) w' := by
          intro v w' hk hv
          refine ih _ _ _ (by simpa using hls) (by rw [getD_set_ne true hil]; exact hll) (hsb.put hF1 v) (hu.trans hk) ?_ ?_
          · intro j oj d hlj hoj hdj
            by_cases hdd : o.dst = some d
            · rw [hdd, eval_put_same (by rw [hsb.size]; exact hsz d (hF1 d hdd))]
              exact hv d hdd
            · have hji : j ≠ i := by
                rintro rfl
                rw [ho] at hoj
                cases hoj
                exact hdd hdj
              rw [getD_set_ne false (Ne.symm hji)] at hlj
              rw [Act.eval_put (fun d' hd' e => by cases e; exact hdd hd')]
              exact hstab _ _ _ _ (hsp j oj d hlj hoj hdj) hk
          · have hlt : (List.range ops.size).countP (fun j => !(listed.setIfInBounds i true).getD j true) < (List.range ops.size).countP (fun j => !listed.getD j true) := by
              refine countP_less _ (fun x hx => ?_) ⟨i, List.mem_range.2 hi2, by simp [hun], ?_⟩
              · by_cases hxi : x = i
                · subst hxi; simp [hun]
                · rw [getD_set_ne true (Ne.symm hxi)] at hx
                  exact hx
              · have : i < listed.size := by omega
                simp [Array.getD, this]
            omega
        unfold wpOp
        simp only [ho]
        by_cases hw : Region.wanted o (yielded ops a'.tmps) = true
        · rw [if_pos hw] at hst ⊢
          refine .inl ?_
          unfold Oper.wp
          revert hst
          generalize (execOp a'.eval o).run P w = r
          intro hst
          cases r with
          | ok n w' =>
            cases n <;> simp only [Leaves] at hst <;> simp only [Oper.upon]
            case value v => exact next v w' hst.1 hst.2
            case skip => exact next undef w' hst.1 hst.2
            case enter f args =>
              refine hst.mono fun e w'' he => ?_
              obtain ⟨v, rfl, hk, hv⟩ := he
              exact next v w'' hk hv
          | halt x w' => simp only [Leaves] at hst
        · rw [if_neg hw] at hst ⊢
          exact next undef w (Upd.refl _ w) hst
  refine main ops.size (Array.replicate ops.size false) a { w0 with drawn := w0.drawn + 1 } (by simp) (by simp [Array.getD, hls0]) ⟨rfl, rfl, fun _ _ => rfl⟩ ⟨rfl, rfl, rfl, Nat.le_refl _, fun _ _ _ => rfl⟩ ?_ ?_
  · intro j o d hl ho
    have hj := (Array.getElem?_eq_some_iff.1 ho).1
    simp [Array.getD, hj] at hl
  · have := List.countP_le_length (l := List.range ops.size) (p := fun j => !(Array.replicate ops.size false).getD j true)
    simpa using this
end
end Go.Proofs.Ytaejnhgnacgheaa
