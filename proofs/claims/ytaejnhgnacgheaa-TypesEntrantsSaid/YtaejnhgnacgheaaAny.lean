/- A region that draws its order, by one statement an operation: what each leaves in its slot is told by a condition that stays true while blocks are only added. Whatever order is drawn, each operation is met once. No program in sight. -/
import Derived.Test.YtaejnhgnacgheaaTbase
import Derived.Orders
namespace Go.Proofs.Ytaejnhgnacgheaa
set_option linter.unusedVariables false
set_option linter.unusedSimpArgs false
open Go.RowKit

/-- a' differs from a in the slots of dl alone -/
structure SameBut (dl : List Tmp) (a a' : Act) : Prop where
  size : a'.tmps.size = a.tmps.size
  defers : a'.defers = a.defers
  keep : ∀ t, t ∉ dl → a'.eval (.tmp t) = a.eval (.tmp t)
/-- what an operation has yielded meets the slot's condition -/
def Leaves (P : Program) (spec : Tmp → Value → World → Prop) (o : Oper) (w : World) : Result Next → Prop
  | .ok (.value v) w' => Kp w w' ∧ ∀ d, o.dst = some d → spec d v w'
  | .ok .skip w' => Kp w w' ∧ ∀ d, o.dst = some d → spec d undef w'
  | .ok (.enter f args) w' => Calls P f args w' fun e w'' => ∃ v, e = .returned v ∧ Kp w w'' ∧ ∀ d, o.dst = some d → spec d v w''
  | _ => False
/-- one operation, behind the operations whose slots are ds -/
def StepOk (P : Program) (ops : Array Oper) (a : Act) (dl : List Tmp) (spec : Tmp → Value → World → Prop) (w0 : World) (o : Oper) (ds : List Tmp) : Prop :=
  ∀ a' w, SameBut dl a a' → Kp w0 w → (∀ t, t ∈ ds → spec t (a'.eval (.tmp t)) w) →
    if Region.wanted o (yielded ops a'.tmps) = true then Leaves P spec o w ((execOp a'.eval o).run P w) else ∀ d, o.dst = some d → spec d undef w
def AllSteps (P : Program) (ops : Array Oper) (a : Act) (dl : List Tmp) (spec : Tmp → Value → World → Prop) (w0 : World) : List Oper → List (List Tmp) → Prop
  | o :: os, ds :: dss => StepOk P ops a dl spec w0 o ds ∧ AllSteps P ops a dl spec w0 os dss
  | _, _ => True
/-- the slots ds of each operation are those of operations that it waits for; all slots lie in dl; nothing waits for what comes later -/
def fitsB (ops : Array Oper) (dl : List Tmp) (dss : List (List Tmp)) : Bool :=
  dss.length == ops.size && (List.range ops.size).all fun i => match ops[i]? with
    | none => false
    | some o => (match o.dst with | some d => dl.contains d | none => true) && (o.after.all fun e => decide (e.on < i)) &&
      ((dss.getD i []).all fun t => o.after.any fun e => Region.binds .any e && (match ops[e.on]? with | some o' => o'.dst == some t | none => false))

section
variable {P : Program} {ops : Array Oper} {a : Act} {dl : List Tmp} {spec : Tmp → Value → World → Prop} {w0 : World}
theorem AllSteps.at_ : ∀ {os : List Oper} {dss : List (List Tmp)}, AllSteps P ops a dl spec w0 os dss → os.length = dss.length → ∀ i o, os[i]? = some o → StepOk P ops a dl spec w0 o (dss.getD i [])
  | [], _, _, _, i, o, h => by simp at h
  | _ :: _, [], _, hl, _, _, _ => by simp at hl
  | o' :: os, ds :: dss, h, hl, 0, o, ho => by simp at ho; subst ho; simpa using h.1
  | o' :: os, ds :: dss, h, hl, i + 1, o, ho => by
    simp at ho hl
    simpa using AllSteps.at_ h.2 hl i o ho
theorem countP_less {p q : Nat → Bool} : ∀ (l : List Nat), (∀ x, q x = true → p x = true) → (∃ x ∈ l, p x = true ∧ q x = false) → l.countP q < l.countP p
  | [], _, ⟨x, hx, _⟩ => by simp at hx
  | y :: l, hqp, ⟨x, hx, hpx, hqx⟩ => by
    have hle : l.countP q ≤ l.countP p := List.countP_mono_left (fun z _ => hqp z)
    by_cases hxy : x = y
    · subst hxy
      rw [List.countP_cons_of_pos hpx, List.countP_cons_of_neg (by simp [hqx])]
      omega
    · have hxl : x ∈ l := by
        rcases List.mem_cons.1 hx with h | h
        · exact absurd h hxy
        · exact h
      have := countP_less l hqp ⟨x, hxl, hpx, hqx⟩
      rw [List.countP_cons, List.countP_cons]
      have h2 := hqp y
      cases hq : q y <;> cases hp : p y <;> simp_all <;> omega
theorem SameBut.put {a' : Act} (h : SameBut dl a a') {dst : Option Tmp} (hd : ∀ d, dst = some d → d ∈ dl) (v : Value) : SameBut dl a (a'.put dst v) := by
  cases dst with
  | none => exact h
  | some d =>
    refine ⟨by simp [Act.put, h.size], h.defers, fun t ht => ?_⟩
    rw [← h.keep t ht]
    have hne : d ≠ t := fun e => ht (e ▸ hd d rfl)
    exact Act.eval_put (fun d' hd' e => by cases hd'; cases e; exact hne rfl)
theorem eval_put_same {a' : Act} {d : Tmp} {v : Value} (h : d < a'.tmps.size) : (a'.put (some d) v).eval (.tmp d) = v := by
  simp [Act.put, Act.eval, Array.getD, h]
/-- A REGION THAT DRAWS ITS ORDER. -/
theorem wp_region_specs {id : Nat} {Q : Exit → Act → World → Prop} (hm : P.follows .mixedOrders = true) (dss : List (List Tmp)) (hfit : fitsB ops dl dss = true) (hszB : (dl.all fun d => decide (d < a.tmps.size)) = true)
    (hstab : ∀ d v w w', spec d v w → Kp w w' → spec d v w') (hstep : AllSteps P ops a dl spec w0 ops.toList dss)
    (hend : ∀ a' w, SameBut dl a a' → Kp w0 w → (∀ (i : Nat) (o : Oper) (d : Tmp), ops[i]? = some o → o.dst = some d → spec d (a'.eval (.tmp d)) w) → Q .normal a' w) :
    (Code.region id ops true).wp P Q a w0 := by
  have hsz : ∀ d, d ∈ dl → d < a.tmps.size := fun d hd => of_decide_eq_true (List.all_eq_true.1 hszB d hd)
  unfold fitsB at hfit
  rw [Bool.and_eq_true, List.all_eq_true] at hfit
  obtain ⟨hlen, hfit⟩ := hfit
  have hlen' : dss.length = ops.size := by simpa using hlen
  have hF : ∀ i o, ops[i]? = some o → (∀ d, o.dst = some d → d ∈ dl) ∧ (∀ e ∈ o.after, e.on < i) ∧ ∀ t, t ∈ dss.getD i [] → ∃ e ∈ o.after, Region.binds .any e = true ∧ ∃ o', ops[e.on]? = some o' ∧ o'.dst = some t := by
    intro i o ho
    have hi := (Array.getElem?_eq_some_iff.1 ho).1
    have h := hfit i (List.mem_range.2 hi)
    simp only [ho, Bool.and_eq_true] at h
    obtain ⟨⟨h1, h2⟩, h3⟩ := h
    refine ⟨fun d hd => ?_, fun e he => ?_, fun t ht => ?_⟩
    · rw [hd] at h1
      simpa using h1
    · have := Array.all_eq_true_iff_forall_mem.1 h2 e he
      simpa using this
    · have h4 := List.all_eq_true.1 h3 t ht
      obtain ⟨j, hj, h5⟩ := Array.any_eq_true.1 h4
      rw [Bool.and_eq_true] at h5
      refine ⟨o.after[j], Array.getElem_mem _, h5.1, ?_⟩
      have h6 := h5.2
      split at h6
      · rename_i o' ho'
        exact ⟨o', ho', by simpa using h6⟩
      · cases h6
  refine wp_region_any hm ?_
  have main : ∀ (fuel : Nat) (listed : Array Bool) (a' : Act) (w : World), listed.size = ops.size → SameBut dl a a' → Kp w0 w →
      (∀ (j : Nat) (o : Oper) (d : Tmp), listed.getD j false = true → ops[j]? = some o → o.dst = some d → spec d (a'.eval (.tmp d)) w) →
      (List.range ops.size).countP (fun j => !listed.getD j true) ≤ fuel → wpAny P .any ops Q fuel listed a' w := by
    have hdone : ∀ (listed : Array Bool) (a' : Act) (w : World), listed.size = ops.size → SameBut dl a a' → Kp w0 w →
        (∀ (j : Nat) (o : Oper) (d : Tmp), listed.getD j false = true → ops[j]? = some o → o.dst = some d → spec d (a'.eval (.tmp d)) w) → Region.ready .any ops listed = [] → Q .normal a' w := by
      intro listed a' w hls hsb hu hsp hr
      refine hend a' w hsb hu (fun i o d ho hd => ?_)
      have hall : ∀ n j, j < n → j < ops.size → listed.getD j false = true := by
        intro n
        induction n with
        | zero => intro j hj; omega
        | succ n ih =>
          intro j hj hjs
          cases hl : listed.getD j false with
          | true => rfl
          | false =>
            exfalso
            have hmem : j ∈ Region.ready .any ops listed := by
              refine mem_ready.2 ⟨?_, ops[j], Array.getElem?_eq_getElem hjs, fun e he _ => ?_⟩
              · have hjl : j < listed.size := Nat.lt_of_lt_of_eq hjs hls.symm
                simp only [Array.getD, hjl, dite_true] at hl ⊢
                exact hl
              · have := (hF j ops[j] (Array.getElem?_eq_getElem hjs)).2.1 e he
                exact ih e.on (Nat.lt_of_lt_of_le this (Nat.le_of_lt_succ hj)) (Nat.lt_trans this hjs)
            rw [hr] at hmem
            cases hmem
      exact hsp i o d (hall (i + 1) i (by omega) (Array.getElem?_eq_some_iff.1 ho).1) ho hd
    intro fuel
    induction fuel with
    | zero =>
      intro listed a' w hls hsb hu hsp hc
      have hr : Region.ready .any ops listed = [] := by
        apply List.eq_nil_iff_forall_not_mem.2
        intro j hj
        obtain ⟨h1, o, ho, _⟩ := mem_ready.1 hj
        have hj2 := (Array.getElem?_eq_some_iff.1 ho).1
        have : 0 < (List.range ops.size).countP (fun j => !listed.getD j true) := List.countP_pos_iff.2 ⟨j, List.mem_range.2 hj2, by simp [h1]⟩
        omega
      exact ⟨hr, hdone listed a' w hls hsb hu hsp hr⟩
    | succ fuel ih =>
      intro listed a' w hls hsb hu hsp hc
      refine ⟨hdone listed a' w hls hsb hu hsp, fun i hi => ?_⟩
      obtain ⟨hun, o, ho, hdep⟩ := mem_ready.1 hi
      have hi2 := (Array.getElem?_eq_some_iff.1 ho).1
      obtain ⟨hF1, hF2, hF3⟩ := hF i o ho
      have hst := hstep.at_ (by rw [hlen']; simp) i o (by simpa using ho) a' w hsb hu (fun t ht => by
        obtain ⟨e, he, hb, o', ho', hd'⟩ := hF3 t ht
        exact hsp e.on o' t (hdep e he hb) ho' hd')
      have next : ∀ v w', Kp w w' → (∀ d, o.dst = some d → spec d v w') → wpAny P .any ops Q fuel (listed.setIfInBounds i true) (a'.put o.dst v) w' := by
        intro v w' hk hv
        refine ih _ _ _ (by simpa using hls) (hsb.put hF1 v) (hu.trans hk) ?_ ?_
        · intro j oj d hlj hoj hdj
          by_cases hdd : o.dst = some d
          · rw [hdd, eval_put_same (by rw [hsb.size]; exact hsz d (hF1 d hdd))]
            exact hv d hdd
          · have hji : j ≠ i := by
              rintro rfl
              rw [ho] at hoj
              cases hoj
              exact hdd hdj
            rw [getD_set_ne false (Ne.symm hji)] at hlj
            rw [Act.eval_put (fun d' hd' e => by cases e; exact hdd hd')]
            exact hstab _ _ _ _ (hsp j oj d hlj hoj hdj) hk
        · have hlt : (List.range ops.size).countP (fun j => !(listed.setIfInBounds i true).getD j true) < (List.range ops.size).countP (fun j => !listed.getD j true) := by
            refine countP_less _ (fun x hx => ?_) ⟨i, List.mem_range.2 hi2, by simp [hun], ?_⟩
            · by_cases hxi : x = i
              · subst hxi; simp [hun]
              · rw [getD_set_ne true (Ne.symm hxi)] at hx
                exact hx
            · have : i < listed.size := by omega
              simp [Array.getD, this]
          omega
      unfold wpOp
      simp only [ho]
      by_cases hw : Region.wanted o (yielded ops a'.tmps) = true
      · rw [if_pos hw] at hst ⊢
        refine .inl ?_
        unfold Oper.wp
        revert hst
        generalize (execOp a'.eval o).run P w = r
        intro hst
        cases r with
        | ok n w' =>
          cases n <;> simp only [Leaves] at hst <;> simp only [Oper.upon]
          case value v => exact next v w' hst.1 hst.2
          case skip => exact next undef w' hst.1 hst.2
          case enter f args =>
            refine hst.mono fun e w'' he => ?_
            obtain ⟨v, rfl, hk, hv⟩ := he
            exact next v w'' hk hv
        | halt x w' => simp only [Leaves] at hst
      · rw [if_neg hw] at hst ⊢
        exact next undef w (Upd.refl _ w) hst
  refine main ops.size (Array.replicate ops.size false) a { w0 with drawn := w0.drawn + 1 } (by simp) ⟨rfl, rfl, fun _ _ => rfl⟩ ⟨rfl, rfl, rfl, Nat.le_refl _, fun _ _ _ => rfl⟩ ?_ ?_
  · intro j o d hl ho
    have hj := (Array.getElem?_eq_some_iff.1 ho).1
    simp [Array.getD, hj] at hl
  · have := List.countP_le_length (l := List.range ops.size) (p := fun j => !(Array.replicate ops.size false).getD j true)
    simpa using this
/-- the slots, those of dl as variables -/
def pickS (dl : List Tmp) (f : Nat → Value) : List Value → Nat → List Value
  | [], _ => []
  | x :: xs, k => (if dl.contains k then f k else x) :: pickS dl f xs (k + 1)
theorem pickS_get (dl : List Tmp) (f : Nat → Value) : ∀ (xs : List Value) (k j : Nat), (pickS dl f xs k)[j]? = (xs[j]?).map fun x => if dl.contains (k + j) then f (k + j) else x
  | [], k, j => by simp [pickS]
  | x :: xs, k, 0 => by simp [pickS]
  | x :: xs, k, j + 1 => by
    rw [pickS, List.getElem?_cons_succ, pickS_get dl f xs (k + 1) j, List.getElem?_cons_succ]
    rw [show k + 1 + j = k + (j + 1) from by omega]
theorem SameBut.lit {ts : List Value} {dfs : List Deferred} {a' : Act} (h : SameBut dl ⟨ts.toArray, dfs⟩ a') : ∃ f : Nat → Value, a' = ⟨(pickS dl f ts 0).toArray, dfs⟩ := by
  obtain ⟨tm, df⟩ := a'
  obtain ⟨h1, h2, h3⟩ := h
  simp only at h1 h2
  refine ⟨fun k => tm.getD k undef, ?_⟩
  rw [h2]
  congr 1
  apply Array.ext'
  apply List.ext_getElem?
  intro j
  simp only [List.size_toArray] at h1
  rw [pickS_get, Nat.zero_add]
  by_cases hj : j < ts.length
  · rw [List.getElem?_eq_getElem hj, List.getElem?_eq_getElem (by simpa [h1] using hj)]
    simp only [Option.map_some, Option.some.injEq]
    have hjt : j < tm.size := by omega
    by_cases hd : j ∈ dl
    · simp [hd, hjt, Array.getD]
    · have h4 := h3 j hd
      simp only [Act.eval, Array.getD, hjt, List.size_toArray, hj, dite_true] at h4
      simp [hd]
      simpa using h4
  · have e1 : ts[j]? = none := List.getElem?_eq_none (by omega)
    have e2 : tm.toList[j]? = none := List.getElem?_eq_none (by rw [Array.length_toList]; omega)
    rw [e1, e2]
    rfl
/-- what a slot may be asked to hold -/
inductive Want where
  | is (v : Value)
  | nums (L : List Int)
  | strs (L : List (List UInt8))
  | any
def Want.ok : Want → Value → World → Prop
  | .is c, v, _ => v = c
  | .nums L, v, w => Nums w v L
  | .strs L, v, w => Strs w v L
  | .any, _, _ => True
theorem Want.stab : ∀ (x : Want) (v : Value) (w w' : World), x.ok v w → Kp w w' → x.ok v w'
  | .is _, _, _, _, h, _ => h
  | .nums _, _, _, _, h, hk => Lst.upd h hk
  | .strs _, _, _, _, h, hk => Lst.upd h hk
  | .any, _, _, _, _, _ => trivial
theorem eval_get (a' : Act) (t : Tmp) : a'.eval (.tmp t) = a'.tmps[t]?.getD undef := by simp [Act.eval]
theorem leaves_value {o : Oper} {w w' : World} {r : Result Next} {v : Value} (h : r = .ok (.value v) w') (hk : Kp w w') (hs : ∀ d, o.dst = some d → spec d v w') : Leaves P spec o w r := by
  subst h
  exact ⟨hk, hs⟩
theorem leaves_call {o : Oper} {w : World} {r : Result Next} {f : FuncId} {args : Array Value} (h : r = .ok (.enter f args) w) (hc : Calls P f args w fun e w'' => ∃ v, e = .returned v ∧ Kp w w'' ∧ ∀ d, o.dst = some d → spec d v w'') : Leaves P spec o w r := by
  subst h
  exact hc
theorem yielded_of {a' : Act} {j : Nat} {d : Tmp} {b : Bool} (h1 : (ops[j]?).bind (·.dst) = some d) (h2 : a'.eval (.tmp d) = .bool b) : yielded ops a'.tmps j = some b := by
  unfold yielded
  rw [h1]
  simp only [Act.eval, Array.getD] at h2
  split at h2
  · rename_i hlt
    simp only [Option.bind_some, Array.getElem?_eq_getElem hlt]
    have h3 : a'.tmps[d] = .bool b := h2
    rw [h3]
  · cases h2
end
end Go.Proofs.Ytaejnhgnacgheaa
