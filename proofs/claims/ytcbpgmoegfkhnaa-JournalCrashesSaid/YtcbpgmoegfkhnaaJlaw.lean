/- Journals: the contracts in the form that the laws use. -/
import Derived.Test.YtcbpgmoegfkhnaaJsane
namespace Go.Proofs.Ytcbpgmoegfkhnaa
set_option linter.unusedVariables false
open Go.RowKit

/-- A disk that a journal can be opened on. -/
structure DOn (s : DSt) (p : Nat) (L : List (List UInt8)) (n : Nat) : Prop where
  opened : openedL s.now = some (p, L)
  alive : s.failing = false
  fit : Fit n s
/-- A disk with a journal on it that goes on. -/
structure JOn (s : DSt) (j : JSt) (L : List (List UInt8)) (n : Nat) : Prop where
  calm : Calm s
  opened : openedL s.now = some (j.p, L)
  good : JGood j L
  alive : s.failing = false
  fit : Fit n s
theorem DOn.new : DOn newSt 0 [] 0 := ⟨opened_empty, rfl, Fit.new⟩
theorem DOn.on {s : DSt} {p : Nat} {L : List (List UInt8)} {n : Nat} (h : DOn s p L n) : JOn (syncedSt s) (jOpen p L) L (n + 1) := ⟨Calm.synced s, h.opened, JGood.opened h.opened, h.alive, h.fit.synced⟩
theorem JOn.disk {s : DSt} {j : JSt} {L : List (List UInt8)} {n : Nat} (h : JOn s j L n) : DOn s j.p L n := ⟨h.opened, h.alive, h.fit⟩
theorem JOn.crash {s : DSt} {j : JSt} {L : List (List UInt8)} {n : Nat} (h : JOn s j L n) (q : List Int) : DOn (crashedSt s q) j.p L 0 := ⟨by rw [crash_calm h.calm]; exact h.opened, rfl, h.fit.crashed q⟩
theorem on_open {W w : World} {m : List Item} (h : Own W w m) (i : Nat) {b : Nat} {s : DSt} (hi : m[i]? = some (.disk b s)) {p : Nat} {L : List (List UInt8)} {n : Nat} (hd : DOn s p L n) (hn : n ≤ 1500) :
    Calls Try.prog 11 #[.pointer (some ⟨b, 0, none⟩)] w (OpenOk W (m.set i (.disk b (syncedSt s))) b p L) := open_ok h i hi hd.fit hn hd.alive hd.opened
def Small (L : List (List UInt8)) : Prop := ∀ r, r ∈ L → r.length ≤ 200
theorem Small.nil : Small [] := by intro r hr; cases hr
theorem Small.add {L : List (List UInt8)} (h : Small L) {r : List UInt8} (hr : r.length ≤ 200) : Small (L ++ [r]) := by
  intro x hx
  rcases List.mem_append.1 hx with h' | h'
  · exact h x h'
  · rw [List.mem_singleton.1 h']; exact hr
theorem Small.lens {L : List (List UInt8)} (h : Small L) : 0 ≤ lensI L ∧ lensI L ≤ L.length * 216 := by
  have := lensI_le L 200 h
  exact ⟨this.1, by simpa using this.2⟩
theorem short_len (l : List UInt8) : (l.take 200).length ≤ 200 := by simp; omega

def AppOk (W : World) (bj bd : Nat) (M : List Item) (i : Nat) (j : JSt) (L : List (List UInt8)) (r : List UInt8) (n : Nat) (e : Ending) (w' : World) : Prop :=
  ∃ s', e = .returned (.int .i64 0) ∧ Own W w' (.row bj 61 (jS bd (jNext j r)) :: M.set i (.disk bd s')) ∧ JOn s' (jNext j r) (L ++ [r]) (n + 4)
theorem on_append {W w : World} {bj bd : Nat} {M : List Item} {j : JSt} (h : Own W w (.row bj 61 (jS bd j) :: M)) (i : Nat) {s : DSt} (hi : M[i]? = some (.disk bd s)) {L : List (List UInt8)} {n : Nat} (hj : JOn s j L n) (hn : n ≤ 1490) (r : List UInt8) (hL : L.length ≤ 1000000000) (hfit : lensI L + r.length + 16 + 256 ≤ 16777216) :
    Calls Try.prog 13 #[.pointer (some ⟨bj, 0, none⟩), .string ⟨r.toArray⟩] w (AppOk W bj bd M i j L r n) := by
  have hb := hj.good.bytes
  obtain ⟨s', e1, k1, o1, f1⟩ := append_ok hj.calm hj.opened hj.good (r := r) (by rw [hb]; exact hfit) hj.alive
  have hF := hj.good.fit hj.opened hL (by omega)
  have hfa := hj.fit.append j r hF.b0
  rw [e1] at hfa
  have hc := append_any h i hi hj.fit hn hF r (by have := hF.b0; omega)
  rw [e1] at hc
  exact hc.mono fun e w' ⟨he, ho⟩ => ⟨s', he, ho, k1, o1, hj.good.next r, f1, hfa⟩
theorem on_append_small {W w : World} {bj bd : Nat} {M : List Item} {j : JSt} (h : Own W w (.row bj 61 (jS bd j) :: M)) (i : Nat) {s : DSt} (hi : M[i]? = some (.disk bd s)) {L : List (List UInt8)} {n : Nat} (hj : JOn s j L n) (hn : n ≤ 1490) (hS : Small L) (hL : L.length ≤ 1000) (r : List UInt8) :
    Calls Try.prog 13 #[.pointer (some ⟨bj, 0, none⟩), .string ⟨(r.take 200).toArray⟩] w (AppOk W bj bd M i j L (r.take 200) n) := by
  have := hS.lens
  have := short_len r
  exact on_append h i hi hj hn _ (by omega) (by omega)
theorem on_many {W w : World} {bj bd : Nat} {M : List Item} {j : JSt} {s : DSt} {L : List (List UInt8)} {n : Nat} (h : Own W w (.row bj 61 (jS bd j) :: M)) (hj : JOn s j L n) :
    Calls Try.prog 16 #[.pointer (some ⟨bj, 0, none⟩)] w fun e w' => e = .returned (.int .i64 L.length) ∧ w = w' := by
  have := many_any h
  rw [hj.good.many] at this
  exact this

/-- A list of texts among the arguments. -/
structure Strs (W : World) (A : Option Addr) (n c : Nat) (l : List (List UInt8)) : Prop where
  rd : Rd W (.slice A n c) 1 n (ssv l)
  len : n ≤ maxLen
  each : ∀ r, r ∈ l → r.length ≤ maxLen
theorem Strs.get {w w' : World} {A : Option Addr} {n c k : Nat} {l : List (List UInt8)} (h : Strs w A n c l) (hk : k < n) (hu : Upd (fun _ => False) w w') : ∃ g o x, A = some ⟨g, o, none⟩ ∧ x.length ≤ maxLen ∧ l[k]? = some x ∧ w'.cell? ⟨g, o + k, none⟩ = some (.string ⟨x.toArray⟩) := by
  obtain ⟨g, o, rfl⟩ := h.rd.some_ (by omega)
  have hl : l.length = n := by have := h.rd.1; simpa [ssv] using this
  have hc := h.rd.cellAt (j := k) (u := .string ⟨l[k].toArray⟩) (by rw [ssv_get, List.getElem?_eq_getElem (by omega)]; rfl)
  exact ⟨g, o, l[k], rfl, h.each _ (List.getElem_mem _), List.getElem?_eq_getElem (by omega), (hu.cell (World.block_lt_of_cell? _ _ hc) id).trans hc⟩
theorem Rd.upto {w : World} {A : Option Addr} {n c k : Nat} {l : List (List UInt8)} (h : Rd w (.slice A n c) 1 n (ssv l)) (hk : k ≤ n) : Rd w (.slice A k c) 1 k (ssv (l.take k)) := by
  obtain ⟨h1, A', c', he, h2, h3, h4⟩ := h
  cases he
  refine ⟨by simp [ssv] at h1 ⊢; omega, A, c, rfl, by omega, fun e => by have := h3 e; omega, fun ad hA => ⟨(h4 ad hA).1, fun j u hu => (h4 ad hA).2 j u ?_⟩⟩
  rw [ssv_get, List.getElem?_take] at hu
  rw [ssv_get]
  split at hu
  · exact hu
  · simp at hu
theorem Rd.cap {w : World} {A : Option Addr} {n c k : Nat} {size : Nat} {xs : List Value} (h : Rd w (.slice A n c) size k xs) : n ≤ c := by
  obtain ⟨_, _, _, he, h1, _⟩ := h
  cases he
  exact h1
theorem same_first {w : World} {A3 A4 : Option Addr} {c3 c4 n m : Nat} {L L2 : List (List UInt8)} (h3 : Rd w (.slice A3 n c3) 1 L.length (ssv L)) (h4 : Rd w (.slice A4 m c4) 1 L2.length (ssv L2)) (hL : L.length = n) (hnm : n ≤ m) (hLL : L2.take L.length = L) (hn : n ≤ maxLen) :
    Calls Try.prog 20 #[.slice A3 n c3, .slice A4 n c4] w (SamePost w true) := by
  obtain ⟨_, _, _, he, _⟩ := id h4
  obtain rfl : m = L2.length := by cases he; rfl
  have h5 := h4.upto hnm
  subst hL
  rw [hLL] at h5
  have := rsame_any w _ _ L L h3 h5 hn hn
  simpa using this
end Go.Proofs.Ytcbpgmoegfkhnaa
