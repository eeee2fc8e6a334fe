/- the maker of entrants under way. -/
import Derived.Test.YtaejnhgnacgheaaT30
import Derived.Test.YtaejnhgnacgheaaT31
namespace Go.Proofs.Ytaejnhgnacgheaa
set_option linter.unusedVariables false
set_option linter.unusedSimpArgs false
open Go.RowKit

/-- an entrant with the values of its lists -/
abbrev EntV := EntL × Value × Value × Value
def entE (x : EntV) : List Value := ecells x.1 x.2.1 x.2.2.1 x.2.2.2
theorem entE_ones {L : List EntV} (h : ∀ x, x ∈ L → x.2.1.oneCell' = true ∧ x.2.2.1.oneCell' = true ∧ x.2.2.2.oneCell' = true) : Ones (L.flatMap entE) := by
  intro u hu
  obtain ⟨x, hx, h1⟩ := List.mem_flatMap.1 hu
  obtain ⟨a, b, c⟩ := h x hx
  simp [entE, ecells] at h1
  rcases h1 with rfl | rfl | rfl | rfl | rfl | rfl
  · rfl
  · rfl
  · rfl
  · exact a
  · exact b
  · exact c
theorem T_ents : SlT Try.prog 42 46 6 96 (.agg #[.int .i64 0, .int .i64 0, .int .i64 0, .slice none 0 0, .slice none 0 0, .slice none 0 0]) := SlT.of Try.underlying42 (by kernel_rfl) rfl
/-- a list of entrants that the call has made -/
structure OutAt (B : Nat) (W : World) (v : Value) (X : List EntV) : Prop where
  sl : Sl W v 46 6 X.length (X.flatMap entE)
  own : ∀ b, v.ownBlock = some b → B ≤ b
  each : ∀ x, x ∈ X → EntSl W x.1 x.2.1 x.2.2.1 x.2.2.2
section
variable {w wo W W' W1 W2 : World} {M B : Nat} {vl v xp xw xg : Value} {L : List Int} {K : Nat} {e : EntL} {X : List EntV}
theorem NumAt.offU {S : Nat → Prop} (h : NumAt W M vl L K) (hu : Upd S W W') (hS : ¬ S M) : NumAt W' M vl L K := Row.upd h hu hS
theorem OutAt.far (h : OutAt B W v X) (hu : Kp W W') : OutAt B W' v X := ⟨h.sl.far hu, h.own, fun x hx => (h.each x hx).kp hu⟩
/-- another row has been written, and new blocks -/
theorem EntSl.offU {S : Nat → Prop} (h : EntSl W e xp xw xg) (hu : Upd S W W') (hS : ∀ b, b < W.heap.size → S b → ∃ t cs, Row W b t cs ∧ 3 ≠ t ∧ 9 ≠ t) : EntSl W' e xp xw xg :=
  ⟨h.p.upd hu (fun k hk ex => by obtain ⟨t, cs, hr, h1, _⟩ := hS k (h.p.lt hk) ex; exact h.p.ne_row hr h1 hk), h.wi.upd hu (fun k hk ex => by obtain ⟨t, cs, hr, _, h1⟩ := hS k (h.wi.lt hk) ex; exact h.wi.ne_row hr h1 hk), h.g.upd hu (fun k hk ex => by obtain ⟨t, cs, hr, _, h1⟩ := hS k (h.g.lt hk) ex; exact h.g.ne_row hr h1 hk), h.ok⟩
theorem OutAt.offU {S : Nat → Prop} (h : OutAt B W v X) (hu : Upd S W W') (hS : ∀ b, b < W.heap.size → S b → ∃ t cs, Row W b t cs ∧ 3 ≠ t ∧ 9 ≠ t ∧ 46 ≠ t) : OutAt B W' v X :=
  ⟨h.sl.upd hu (fun k hk ex => by obtain ⟨t, cs, hr, _, _, h1⟩ := hS k (h.sl.lt hk) ex; exact h.sl.ne_row hr h1 hk), h.own, fun x hx => (h.each x hx).offU hu (fun b hb hs => by obtain ⟨t, cs, hr, h1, h2, _⟩ := hS b hb hs; exact ⟨t, cs, hr, h1, h2⟩)⟩

/-- an entrant under way, made since the world wo; the reader of numbers at M -/
structure EdAt (wo W : World) (M : Nat) (vl : Value) (L : List Int) (K : Nat) (e : EntL) (xp xw xg : Value) : Prop where
  up : Upd (fun b => b = M ∨ wo.heap.size ≤ b) wo W
  num : NumAt W M vl L K
  at_ : EtAt wo.heap.size W wo.heap.size e xp xw xg
  hM : M < wo.heap.size
theorem EdAt.far (h : EdAt wo W M vl L K e xp xw xg) (hu : Kp W W') : EdAt wo W' M vl L K e xp xw xg := ⟨Upd.trans h.up hu (fun _ _ h => h.elim), Row.upd h.num hu id, h.at_.far hu, h.hM⟩
theorem EdAt.next (h : EdAt wo W M vl L K e xp xw xg) {K' : Nat} (hr : NumAt W' M vl L K') (hu : Upd (· = M) W W') : EdAt wo W' M vl L K' e xp xw xg :=
  ⟨Upd.trans h.up hu (fun _ _ h => .inl h), hr, h.at_.offRow h.num (by decide) (by decide) (by have := h.hM; omega) hu, h.hM⟩
theorem EdAt.set (h : EdAt wo W M vl L K e xp xw xg) (i : Nat) (u : Value) {d' : EntL} (hd : (ecells e xp xw xg).set i u = ecells d' xp xw xg) (hp : d'.picks = e.picks) (hw : d'.wishes = e.wishes) (hg : d'.groups = e.groups) : EdAt wo (W.setCell ⟨wo.heap.size, i, none⟩ u) M vl L K d' xp xw xg := by
  have hu : Upd (· = wo.heap.size) W (W.setCell ⟨wo.heap.size, i, none⟩ u) := (Upd.refl (· = wo.heap.size) W).setCell (fun _ => rfl) u
  exact ⟨Upd.trans h.up hu (fun b hb e => by omega), Row.upd h.num hu (by have := h.hM; omega), h.at_.set i u hd hp hw hg, h.hM⟩
theorem EdAt.addP (h : EdAt wo W M vl L K e xp xw xg) {xs : List Int} {n : Nat} {ys : List Value} (h0 : Kp W W1) (hn : n = e.picks.length + xs.length) (hy : ys = e.picks.flatMap numE ++ xs.flatMap numE) (ha : Appended W1 xp 3 1 n ys v W2) :
    Row W2 wo.heap.size 46 (ecells e xp xw xg) ∧ EdAt wo (W2.setCell ⟨wo.heap.size, 3, none⟩ v) M vl L K { e with picks := e.picks ++ xs } v xw xg := by
  obtain ⟨h1, h2, h3⟩ := h.at_.addP h0 hn hy ha
  exact ⟨h1, Upd.trans h.up h3 (fun b hb e => .inr (e.elim (fun e => h.at_.hp b e) (fun e => by omega))), Row.upd h.num h3 (fun ex => ex.elim (fun ex => h.at_.p.ne_row h.num (by decide) ex) (fun ex => by have := h.hM; omega)), h2, h.hM⟩
theorem EdAt.addW (h : EdAt wo W M vl L K e xp xw xg) {xs : List (List UInt8)} {n : Nat} {ys : List Value} (h0 : Kp W W1) (hn : n = e.wishes.length + xs.length) (hy : ys = e.wishes.flatMap strE ++ xs.flatMap strE) (ha : Appended W1 xw 9 1 n ys v W2) :
    Row W2 wo.heap.size 46 (ecells e xp xw xg) ∧ EdAt wo (W2.setCell ⟨wo.heap.size, 4, none⟩ v) M vl L K { e with wishes := e.wishes ++ xs } xp v xg := by
  obtain ⟨h1, h2, h3⟩ := h.at_.addW h0 hn hy ha
  exact ⟨h1, Upd.trans h.up h3 (fun b hb e => .inr (e.elim (fun e => h.at_.hw b e) (fun e => by omega))), Row.upd h.num h3 (fun ex => ex.elim (fun ex => h.at_.wi.ne_row h.num (by decide) ex) (fun ex => by have := h.hM; omega)), h2, h.hM⟩
theorem EdAt.addG (h : EdAt wo W M vl L K e xp xw xg) {xs : List (List UInt8)} {n : Nat} {ys : List Value} (h0 : Kp W W1) (hn : n = e.groups.length + xs.length) (hy : ys = e.groups.flatMap strE ++ xs.flatMap strE) (ha : Appended W1 xg 9 1 n ys v W2) :
    Row W2 wo.heap.size 46 (ecells e xp xw xg) ∧ EdAt wo (W2.setCell ⟨wo.heap.size, 5, none⟩ v) M vl L K { e with groups := e.groups ++ xs } xp xw v := by
  obtain ⟨h1, h2, h3⟩ := h.at_.addG h0 hn hy ha
  exact ⟨h1, Upd.trans h.up h3 (fun b hb e => .inr (e.elim (fun e => h.at_.hg b e) (fun e => by omega))), Row.upd h.num h3 (fun ex => ex.elim (fun ex => h.at_.g.ne_row h.num (by decide) ex) (fun ex => by have := h.hM; omega)), h2, h.hM⟩
/-- a pick has been stored -/
theorem EdAt.pick {b off n cap : Nat} (h : EdAt wo W M vl L K e (.slice (some ⟨b, off, none⟩) n cap) xw xg) {j : Nat} (hn : n = e.picks.length) (hj : j < n) (x : Int) :
    EdAt wo (W.setCell ⟨b, off + j, none⟩ (.int .i64 x)) M vl L K { e with picks := e.picks.set j x } (.slice (some ⟨b, off, none⟩) n cap) xw xg := by
  have hu : Upd (· = b) W (W.setCell ⟨b, off + j, none⟩ (.int .i64 x)) := (Upd.refl (· = b) W).setCell (fun _ => rfl) _
  have hsl := h.at_.p
  rw [← hn] at hsl
  obtain ⟨_, _, h3⟩ := hsl.cell1 hj
  have h4 := h3 (.int .i64 x)
  have hob : (Value.slice (some ⟨b, off, none⟩) n cap).ownBlock = some b := rfl
  have n1 : wo.heap.size ≠ b := fun e => hsl.ne_row h.at_.row (by decide) (by rw [hob, e])
  have n2 : M ≠ b := fun e => hsl.ne_row h.num (by decide) (by rw [hob, e])
  refine ⟨Upd.trans h.up hu (fun k hk e => .inr (by have := h.at_.hp b hob; omega)), Row.upd h.num hu n2, ⟨h.at_.row.upd hu n1, h.at_.hD, ?_, h.at_.wi.upd hu (fun k hk e => by subst e; exact h.at_.wi.ne_sl hsl (by decide) k hk hob), h.at_.g.upd hu (fun k hk e => by subst e; exact h.at_.g.ne_sl hsl (by decide) k hk hob), h.at_.hp, h.at_.hw, h.at_.hg, h.at_.wg⟩, h.hM⟩
  show Sl _ _ _ 1 (e.picks.set j x).length ((e.picks.set j x).flatMap numE)
  rw [List.length_set, ← hn, numE_flat, List.map_set, ← numE_flat]
  exact h4
/-- what was there in wo -/
theorem EdAt.row {b : Nat} {t : TypeId} {cs : List Value} (h : EdAt wo W M vl L K e xp xw xg) (hr : Row wo b t cs) (hb : b ≠ M) : Row W b t cs := hr.upd h.up (fun e => e.elim hb (fun e => by have := hr.lt; omega))
theorem EdAt.out {K' : Nat} (h : EdAt wo W M vl L K e xp xw xg) (hm : NumAt wo M vl L K') (ho : OutAt B wo v X) : OutAt B W v X :=
  ho.offU h.up (fun b hb hs => hs.elim (fun ex => by subst ex; exact ⟨_, _, hm, by decide, by decide, by decide⟩) (fun ex => by omega))
theorem EdAt.since (h : EdAt wo W M vl L K e xp xw xg) (hk : Kp w wo) (hM : w.heap.size ≤ M) : Kp w W := Upd.trans hk h.up (fun b hb e => e.elim (fun e => by omega) (fun e => by have := hk.size; omega))
/-- the entrant has been appended to the list -/
theorem EdAt.push {vo v' : Value} {K' : Nat} (h : EdAt wo W M vl L K e xp xw xg) (hm : NumAt wo M vl L K') (ho : OutAt B wo vo X) (hok : EntOk e) (hB : B ≤ wo.heap.size) (h0 : Kp W W1) (ha : Appended W1 vo 46 6 (X.length + 1) (X.flatMap entE ++ ecells e xp xw xg) v' W2) :
    OutAt B W2 v' (X ++ [(e, xp, xw, xg)]) ∧ NumAt W2 M vl L K ∧ Upd (fun b => vo.ownBlock = some b) W W2 := by
  have h1 := (h.out hm ho).far h0
  have hu := ha.upd
  have hall : Upd (fun b => vo.ownBlock = some b) W W2 := Upd.trans (h0.mono (fun _ _ e => e.elim)) hu (fun _ _ e => e)
  have hne : ∀ b, b < W1.heap.size → vo.ownBlock = some b → ∃ t cs, Row W1 b t cs ∧ 3 ≠ t ∧ 9 ≠ t := fun b _ hb => by
    obtain ⟨cs, hr⟩ := h1.sl.row hb
    exact ⟨_, cs, hr, by decide, by decide⟩
  refine ⟨⟨?_, ?_, ?_⟩, Row.upd (Row.upd h.num h0 id) hu (fun ex => h1.sl.ne_row (Row.upd h.num h0 id) (by decide) ex), hall⟩
  · have := ha.sl
    rw [List.length_append, List.flatMap_append]
    simpa [entE] using this
  · intro b hb
    rcases ha.at_ with ex | ex
    · exact ho.own b (by rw [← ex.1]; exact hb)
    · rw [ex.1] at hb
      cases hb
      have := h.up.size
      have := h0.size
      omega
  · intro x hx
    rcases List.mem_append.1 hx with hx | hx
    · exact (h1.each x hx).offU hu hne
    · rw [List.mem_singleton.1 hx]
      exact ((h.at_.sl hok).kp h0).offU hu hne
end
end Go.Proofs.Ytaejnhgnacgheaa
