/- journal: Open, where the header is right. -/
import Derived.Test.YtcbpgmoegfkhnaaJopen
namespace Go.Proofs.Ytcbpgmoegfkhnaa
set_option linter.unusedVariables false
open Go.RowKit Go.Shelf
attribute [local go_sem] Oper.semAt_some

/-- What holds between two rounds of Open's loop. -/
structure LoopI (w2 : World) (g2 b N : Nat) (pre : List Rec) (W : World) : Prop where
  ok : ∀ x, x ∈ pre → x.1.2 = true
  upd : Upd (fun _ => False) w2 W
  jr : Row W g2 61 (jcells b (pre.map (·.1.1)) N false)
  jv : Row W (g2 + 1) 27 [.pointer (some ⟨g2, 0, none⟩)]
  lv : ∃ v, Row W (g2 + 1 + 1) 22 [v] ∧ Sl W v 9 1 pre.length (ssv (pre.map (·.1.1))) ∧ ∀ k, v.ownBlock = some k → g2 + 5 ≤ k
  size : g2 + 5 ≤ W.heap.size
/-- What holds where a round has found that the form is not right. -/
structure LoopX (w2 : World) (g : Nat) (c : Code) (pre : List Rec) (W : World) : Prop where
  ret : c = .ret
  bad : ∃ x, x ∈ pre ∧ x.1.2 = false
  upd : Upd (S3 g) w2 W
  r0 : Row W g 27 [.pointer none]
  r1 : Row W (g + 1) 22 [.slice none 0 0]
  r2 : Row W (g + 1 + 1) 28 [.int .i64 11]

theorem row_put {W W' : World} {row : Option Nat} {g : Nat} {e : TypeId} {cs : List Value} (h : Row W g e cs) (hg : W.grownBy W' row) (hr : ∀ r, row = some r → ∃ o : Obj, W.heap[r]? = some o ∧ o.isCells = false) : Row W' g e cs := by
  refine h.same (hg.block g h.lt (fun e' => ?_))
  obtain ⟨o, ho, hc⟩ := hr g e'.symm
  obtain ⟨_, _, h1, _⟩ := h
  rw [h1] at ho
  cases ho
  cases hc
theorem sl_put {W W' : World} {row : Option Nat} {v : Value} {e : TypeId} {size n : Nat} {xs : List Value} (h : Sl W v e size n xs) (hg : W.grownBy W' row) (hr : ∀ r, row = some r → ∃ o : Obj, W.heap[r]? = some o ∧ o.isCells = false) : Sl W' v e size n xs := by
  obtain ⟨h1, h2 | ⟨g, off, cap, cs, rfl, hr', rest⟩⟩ := h
  · exact ⟨h1, .inl h2⟩
  · exact ⟨h1, .inr ⟨g, off, cap, cs, rfl, row_put hr' hg hr, rest⟩⟩
theorem upd_put {S : Nat → Prop} {w2 W W' : World} {row : Option Nat} {B : Nat} (h : Upd S w2 W) (hg : W.grownBy W' row) (hB : w2.heap.size ≤ B) (hr : ∀ r, row = some r → B ≤ r) : Upd S w2 W' :=
  h.trans (T := fun k => row = some k) ⟨hg.os, hg.tape, hg.output, hg.size, fun k hk hs => hg.block k hk (fun e => hs e.symm)⟩ (fun k hk e => by have := hr k e; omega)

theorem loopI_own (w2 : World) (g2 b N B : Nat) (hB : w2.heap.size ≤ B) : OwnFrom B (LoopI w2 g2 b N) := fun s W W' row h hg hr => by
  have hr' : ∀ r, row = some r → ∃ o : Obj, W.heap[r]? = some o ∧ o.isCells = false := fun r e => (hr r e).2
  obtain ⟨v, h1, h2, h3⟩ := h.lv
  exact ⟨h.ok, upd_put h.upd hg hB (fun r e => (hr r e).1), row_put h.jr hg hr', row_put h.jv hg hr', ⟨v, row_put h1 hg hr', sl_put h2 hg hr', h3⟩, Nat.le_trans h.size hg.size⟩
theorem loopX_own (w2 : World) (g B : Nat) (hB : w2.heap.size ≤ B) (c : Code) : OwnFrom B (LoopX w2 g c) := fun s W W' row h hg hr => by
  have hr' : ∀ r, row = some r → ∃ o : Obj, W.heap[r]? = some o ∧ o.isCells = false := fun r e => (hr r e).2
  exact ⟨h.ret, h.bad, upd_put h.upd hg hB (fun r e => (hr r e).1), row_put h.r0 hg hr', row_put h.r1 hg hr', row_put h.r2 hg hr'⟩

def RecS (g2 k : Nat) : Prop := g2 ≤ k ∧ k ≠ g2 + 1 + 1 + 1 ∧ k ≠ g2 + 1 + 1 + 1 + 1
theorem recKp_t {S : Nat → Prop} {A B C : World} (h : RecKp S A B) (k : RecKp S B C) : RecKp S A C := Upd.trans h k (fun _ _ h => h)
theorem recKp_put {S : Nat → Prop} (W : World) (l : Nat) (o' : Obj) (hS : S l) : RecKp S W (W.putObj l o') := by
  have hg := grownBy_putObj' W l o'
  exact ⟨hg.os, hg.tape, hg.output, hg.size, fun k hk hs => hg.block k hk (fun e => by cases e; exact hs hS)⟩
theorem keeps_upd {T : Nat → Prop} {B : Nat} {W W' : World} (hu : Upd T W W') (hT : ∀ k, T k → ∀ o, W.heap[k]? = some o → o.isCells = true) : KeepsFrom B W W' :=
  ⟨hu.size, fun k o _ hk ho => (hu.block k (Array.getElem?_eq_some_iff.1 hk).1 (fun ht => by rw [hT k ht o hk] at ho; cases ho)).trans hk⟩

theorem rec_stops {Wl : World} {g2 b e : Nat} {s : DSt} {Fd : Nat → Prop} {R : List Rec} (hs : s.now.length ≤ 16777216) (he : e ≤ 33554432) (hce : Wl.cell? ⟨g2 + 1 + 1 + 1 + 1, 0, none⟩ = some (.int .i64 e))
    (hcx : Wl.cell? ⟨g2 + 1 + 1 + 1, 0, none⟩ = some (.pointer (some ⟨b, 0, none⟩))) (hd : DiskAt Wl Fd b s) (hFd : ∀ k, Fd k → k < g2) (hR : R.map (·.1) = recsL s.now (e - 64) 64 e) :
    SeqStopsK Fence.wide 9 Try.prog 37 #[.pointer (some ⟨g2 + 1 + 1 + 1 + 1, 0, none⟩), .pointer (some ⟨g2 + 1 + 1 + 1, 0, none⟩)] recV (RecKp (RecS g2)) (fun xs => xs = R) (fun pre => pre <+: R) R.length Wl := fun l J Jx W hW hJ hJx hY h0 => by
  have hu := below_upd hW
  have hH : Held (g2 + 1 + 1 + 1 + 1) (g2 + 1 + 1 + 1) b e (RecS g2) Fd s W := (Held.mk (S := RecS g2) hce hcx hd).upd (by unfold RecS; omega) (by unfold RecS; omega) (fun k hk h => by have := hFd k hk; have := h.1; omega) (hu.mono (fun _ _ h => h.elim))
  exact records1_any l (g2 + 1 + 1 + 1 + 1) (g2 + 1 + 1 + 1) b e (RecS g2) Fd s hs he W hH.ce hH.cx (by unfold RecS; omega) (by unfold RecS; omega) (fun k hk h => by have := hFd k hk; have := h.1; omega) hH.d R hR J Jx hJ hJx hY h0

def apHid : Op := .call { callee := .builtin .append, args := #[.tmp 53, .tmp 56], argTypes := #[22, 22] }
theorem ap_hide : Op.call { callee := .builtin .append, args := #[.tmp 53, .tmp 56], argTypes := #[22, 22] } = apHid := rfl
theorem sem_append (ρ : Operand → Value) (s x : Operand) (t : TypeId) (o : Oper) (ho : o.op = .call { callee := .builtin .append, args := #[s, x], argTypes := #[t, t] }) (l : Nat) {v y v' : Value} {W w5 : World} (hv : ρ s = v) (hy : ρ x = y)
    (h : (Builtin.append_ #[t, t] o.type #[v, y]).run Try.prog W = .ok v' w5) : (Oper.semAt (some l) ρ o).run Try.prog W = .ok (.value v') w5 := by
  rw [Oper.semAt_eq _ _ _ (fun c h => by rw [ho] at h; cases h)]
  unfold execOp
  simp only [ho, resolve, invoke, builtin, Sem.run_bind, Sem.run_pure, Result.andThen_ok, List.map_toArray, List.map_cons, List.map_nil, hv, hy, h]
theorem lensI_snoc (L : List (List UInt8)) (r : List UInt8) : lensI (L ++ [r]) = lensI L + ((r.length : Int) + 16) := by simp [lensI]
theorem lensI_bd : ∀ (pre : List Rec), 0 ≤ lensI (pre.map (·.1.1)) ∧ lensI (pre.map (·.1.1)) ≤ pre.length * 16777232
  | [] => by simp [lensI]
  | x :: pre => by
    have h1 := lensI_bd pre
    have h2 := x.2
    simp only [lensI, List.map_cons, List.sum_cons, List.length_cons] at h1 ⊢
    omega

/-- Behind the append of a round. -/
structure RoundAt (W : World) (g2 b N : Nat) (pre : List Rec) (r : List UInt8) (v v' : Value) (w5 : World) : Prop where
  upd : Upd (fun k => v.ownBlock = some k) W w5
  jr : Row w5 g2 61 (jcells b (pre.map (·.1.1)) N false)
  jv : Row w5 (g2 + 1) 27 [.pointer (some ⟨g2, 0, none⟩)]
  lv : Row w5 (g2 + 1 + 1) 22 [v]
  sl : Sl w5 v' 9 1 (pre.length + 1) (ssv (pre.map (·.1.1) ++ [r]))
  at_ : ∀ k, v'.ownBlock = some k → g2 + 5 ≤ k

theorem round_append {w2 W w4 : World} {g2 b N : Nat} {pre : List Rec} {v : Value} (r : List UInt8) (hI : LoopI w2 g2 b N pre W) (hlv : Row W (g2 + 1 + 1) 22 [v])
    (hsl : Sl W v 9 1 pre.length (ssv (pre.map (·.1.1)))) (hvb : ∀ k, v.ownBlock = some k → g2 + 5 ≤ k) (hsz : g2 + 5 ≤ W.heap.size) (hu : Upd (fun _ => False) W w4) (hb : pre.length < 16777217) :
    ∃ A c w5, (Builtin.append_ #[22, 22] 22 #[v, .slice (some ⟨w4.heap.size, 0, none⟩) 1 1]).run Try.prog (w4.alloc (.cells #[.string ⟨r.toArray⟩] 9)) = .ok (.slice A (pre.length + 1) c) w5 ∧
      RoundAt W g2 b N pre r v (.slice A (pre.length + 1) c) w5 := by
  have hu2 : Upd (fun _ => False) W (w4.alloc (.cells #[.string ⟨r.toArray⟩] 9)) := hu.alloc _
  obtain ⟨i0, hi, hz, hsz', hby⟩ := T_strs.i
  have hrd : Rd (w4.alloc (.cells #[.string ⟨r.toArray⟩] 9)) (.slice (some ⟨w4.heap.size, 0, none⟩) 1 1) 1 1 [.string ⟨r.toArray⟩] := by
    have := Rd.of_new (cs := #[.string ⟨r.toArray⟩]) (n := 1) (size := 1) (Row.new w4 9 #[.string ⟨r.toArray⟩]) (by simp)
    simpa using this
  obtain ⟨v', w5, hrun, hA⟩ := run_append_sl (P := Try.prog) (w4.alloc (.cells #[.string ⟨r.toArray⟩] 9)) 22 22 9 i0 (.string ⟨#[]⟩) 1 16 T_strs.u hi hz hsz' hby rfl v pre.length _ (hsl.far hu2) _ 1 _ hrd
    (fun u hu => by simp at hu; subst hu; rfl) (by unfold maxLen; omega) (by omega)
  obtain ⟨A, c, rfl, hc⟩ := hA.sl.form
  have hne : ∀ k, k < g2 + 5 → ¬ v.ownBlock = some k := fun k hk e => by have := hvb k e; omega
  refine ⟨A, c, w5, hrun, (hu2.mono (fun _ _ h => h.elim)).trans hA.upd (fun _ _ h => h), (hI.jr.upd hu2 id).upd hA.upd (hne _ (by omega)), (hI.jv.upd hu2 id).upd hA.upd (hne _ (by omega)), (hlv.upd hu2 id).upd hA.upd (hne _ (by omega)), ?_, fun k hk => ?_⟩
  · have := hA.sl
    simpa [ssv] using this
  · have hs := hu2.size
    rcases hA.at_ with e | e
    · rw [e.1] at hk; exact hvb k hk
    · rw [e.1] at hk; cases hk; omega

theorem round_end {w2 W w5 : World} {g2 b N : Nat} {pre : List Rec} {x : Rec} {v v' : Value} (hI : LoopI w2 g2 b N pre W) (hx : x.1.2 = true) (hlv : Row W (g2 + 1 + 1) 22 [v]) (hsl : Sl W v 9 1 pre.length (ssv (pre.map (·.1.1)))) (hvb : ∀ k, v.ownBlock = some k → g2 + 5 ≤ k)
    (hR : RoundAt W g2 b N pre x.1.1 v v' w5) (hw2 : w2.heap.size = g2) {B : Nat} {n1 n2 : Int} (hn1 : n1 = (pre.length : Int) + 1) (hn2 : n2 = lensI (pre.map (·.1.1)) + ((x.1.1.length : Int) + 16)) :
    KeepsFrom B W (((w5.setCell ⟨g2 + 1 + 1, 0, none⟩ v').setCell ⟨g2, 1, none⟩ (.int .i64 n1)).setCell ⟨g2, 2, none⟩ (.int .i64 n2)) ∧
    RecKp (RecS g2) W (((w5.setCell ⟨g2 + 1 + 1, 0, none⟩ v').setCell ⟨g2, 1, none⟩ (.int .i64 n1)).setCell ⟨g2, 2, none⟩ (.int .i64 n2)) ∧
    LoopI w2 g2 b N (pre ++ [x]) (((w5.setCell ⟨g2 + 1 + 1, 0, none⟩ v').setCell ⟨g2, 1, none⟩ (.int .i64 n1)).setCell ⟨g2, 2, none⟩ (.int .i64 n2)) := by
  subst hn1 hn2
  obtain ⟨X, hX⟩ : ∃ X, X = ((w5.setCell ⟨g2 + 1 + 1, 0, none⟩ v').setCell ⟨g2, 1, none⟩ (.int .i64 ((pre.length : Int) + 1))).setCell ⟨g2, 2, none⟩ (.int .i64 (lensI (pre.map (·.1.1)) + ((x.1.1.length : Int) + 16))) := ⟨_, rfl⟩
  rw [← hX]
  have hu5 : Upd (fun k => k = g2 ∨ k = g2 + 1 + 1) w5 X := by
    rw [hX]
    exact (((Upd.refl _ w5).setCell (fun _ => .inr rfl) _).setCell (fun _ => .inl rfl) _).setCell (fun _ => .inl rfl) _
  have hz5 := hR.upd.size
  have hT : Upd (fun k => k = g2 ∨ k = g2 + 1 + 1 ∨ v.ownBlock = some k) W X := (hR.upd.mono (fun k _ h => .inr (.inr h))).trans hu5 (fun k hk h => by rcases h with h | h; exact .inl h; exact .inr (.inl h))
  have hv'b : ∀ k, v'.ownBlock = some k → ¬ (k = g2 ∨ k = g2 + 1 + 1) := fun k hk => by have := hR.at_ k hk; omega
  refine ⟨keeps_upd hT (fun k hk o ho => ?_), hT.mono (fun k _ h => ?_), ⟨fun y hy => ?_, ?_, ?_, ?_, ⟨v', ?_, ?_, hR.at_⟩, Nat.le_trans hI.size hT.size⟩⟩
  · rcases hk with rfl | rfl | hk
    · obtain ⟨_, _, h1, _⟩ := hI.jr; rw [h1] at ho; cases ho; rfl
    · obtain ⟨_, _, h1, _⟩ := hlv; rw [h1] at ho; cases ho; rfl
    · obtain ⟨cs, _, _, h1, _⟩ := hsl.row hk; rw [h1] at ho; cases ho; rfl
  · unfold RecS
    rcases h with rfl | rfl | h
    · omega
    · omega
    · have := hvb k h; omega
  · rcases List.mem_append.1 hy with h | h
    · exact hI.ok y h
    · simp at h; rw [h]; exact hx
  · exact hI.upd.trans hT (fun k hk h => by
      rcases h with rfl | rfl | h
      · omega
      · omega
      · have := hvb k h; omega)
  · rw [hX]
    have h1 := (((hR.jr.upd ((Upd.refl (fun k => k = g2 + 1 + 1) w5).setCell (p := ⟨g2 + 1 + 1, 0, none⟩) (fun _ => rfl) v') (by omega)).set 1 (.int .i64 ((pre.length : Int) + 1))).set 2 (.int .i64 (lensI (pre.map (·.1.1)) + ((x.1.1.length : Int) + 16))))
    simp only [List.map_append, List.map_cons, List.map_nil, jcells, lensI_snoc, List.length_append, List.length_cons, List.length_nil, List.length_map] at h1 ⊢
    exact h1
  · rw [hX]
    exact hR.jv.upd (hX ▸ hu5) (by omega)
  · rw [hX]
    exact ((hR.lv.set 0 v').upd ((Upd.refl (fun k => k = g2) _).setCell (p := ⟨g2, 1, none⟩) (fun _ => rfl) _) (by omega)).upd ((Upd.refl (fun k => k = g2) _).setCell (p := ⟨g2, 2, none⟩) (fun _ => rfl) _) (by omega)
  · have := hR.sl.upd hu5 hv'b
    simpa using this

theorem round_bad {W0 w2 W : World} {g B : Nat} {m : List Item} {pre : List Rec} (x : Rec) (hx : x.1.2 = false) (h : Own W0 w2 (resM g m)) (hu : Upd (fun _ => False) w2 W) :
    KeepsFrom B W (((W.setCell ⟨g, 0, none⟩ (.pointer none)).setCell ⟨g + 1, 0, none⟩ (.slice none 0 0)).setCell ⟨g + 1 + 1, 0, none⟩ (.int .i64 11)) ∧
    LoopX w2 g .ret (pre ++ [x]) (((W.setCell ⟨g, 0, none⟩ (.pointer none)).setCell ⟨g + 1, 0, none⟩ (.slice none 0 0)).setCell ⟨g + 1 + 1, 0, none⟩ (.int .i64 11)) := by
  refine ⟨(((KeepsOthers.setCell _ _ _).trans (KeepsOthers.setCell _ _ _)).trans (KeepsOthers.setCell _ _ _)).from _, rfl, ⟨x, by simp, hx⟩, ?_, ?_, ?_, ?_⟩
  · exact (((hu.mono (fun _ _ h => h.elim)).setCell (fun _ => .inl rfl) _).setCell (fun _ => .inr (.inl rfl)) _).setCell (fun _ => .inr (.inr rfl)) _
  · exact ((((h.row 2 rfl).upd hu id).set 0 (.pointer none)).upd ((Upd.refl (fun k => k = g + 1) _).setCell (p := ⟨g + 1, 0, none⟩) (fun _ => rfl) _) (by omega)).upd ((Upd.refl (fun k => k = g + 1 + 1) _).setCell (p := ⟨g + 1 + 1, 0, none⟩) (fun _ => rfl) _) (by omega)
  · exact ((((h.row 1 rfl).upd hu id).upd ((Upd.refl (fun k => k = g) _).setCell (p := ⟨g, 0, none⟩) (fun _ => rfl) _) (by omega)).set 0 (.slice none 0 0)).upd ((Upd.refl (fun k => k = g + 1 + 1) _).setCell (p := ⟨g + 1 + 1, 0, none⟩) (fun _ => rfl) _) (by omega)
  · exact ((((h.row 0 rfl).upd hu id).upd ((Upd.refl (fun k => k = g) _).setCell (p := ⟨g, 0, none⟩) (fun _ => rfl) _) (by omega)).upd ((Upd.refl (fun k => k = g + 1) _).setCell (p := ⟨g + 1, 0, none⟩) (fun _ => rfl) _) (by omega)).set 0 (.int .i64 11)

/-- the world in which Open's loop begins -/
def loopW (w2 : World) (g2 b N : Nat) : World :=
  ((((w2.alloc (.cells #[.pointer (some ⟨b, 0, none⟩), .int .i64 0, .int .i64 0, .int .i64 (64 + (N : Int)), .bool false] 61)).alloc (.cells #[.pointer (some ⟨g2, 0, none⟩)] 27)).alloc (.cells #[.slice none 0 0] 22)).alloc (.cells #[.pointer (some ⟨b, 0, none⟩)] 25)).alloc (.cells #[.int .i64 (64 + (N : Int))] 3)
structure LoopStart (w2 : World) (g2 b N : Nat) (Wl : World) : Prop where
  i : LoopI w2 g2 b N [] Wl
  ce : Wl.cell? ⟨g2 + 1 + 1 + 1 + 1, 0, none⟩ = some (.int .i64 (64 + N : Nat))
  cx : Wl.cell? ⟨g2 + 1 + 1 + 1, 0, none⟩ = some (.pointer (some ⟨b, 0, none⟩))
  size : Wl.heap.size = g2 + 5
theorem loop_start {w2 : World} {g2 : Nat} (b N : Nat) (hg : w2.heap.size = g2) : LoopStart w2 g2 b N (loopW w2 g2 b N) := by
  have a0 := Row.new_at w2 61 #[.pointer (some ⟨b, 0, none⟩), .int .i64 0, .int .i64 0, .int .i64 (64 + (N : Int)), .bool false] g2 hg.symm
  have u0 : Upd (fun _ => False) w2 (w2.alloc (.cells #[.pointer (some ⟨b, 0, none⟩), .int .i64 0, .int .i64 0, .int .i64 (64 + (N : Int)), .bool false] 61)) := (Upd.refl _ _).alloc _
  generalize hw1 : w2.alloc (.cells #[.pointer (some ⟨b, 0, none⟩), .int .i64 0, .int .i64 0, .int .i64 (64 + (N : Int)), .bool false] 61) = x1 at a0 u0
  have s1 : x1.heap.size = g2 + 1 := by rw [← hw1, World.size_alloc, hg]
  have a1 := Row.new_at x1 27 #[.pointer (some ⟨g2, 0, none⟩)] (g2 + 1) s1.symm
  have u1 : Upd (fun _ => False) x1 (x1.alloc (.cells #[.pointer (some ⟨g2, 0, none⟩)] 27)) := (Upd.refl _ _).alloc _
  generalize hw2 : x1.alloc (.cells #[.pointer (some ⟨g2, 0, none⟩)] 27) = x2 at a1 u1
  have s2 : x2.heap.size = g2 + 1 + 1 := by rw [← hw2, World.size_alloc, s1]
  have a2 := Row.new_at x2 22 #[.slice none 0 0] (g2 + 1 + 1) s2.symm
  have u2 : Upd (fun _ => False) x2 (x2.alloc (.cells #[.slice none 0 0] 22)) := (Upd.refl _ _).alloc _
  generalize hw3 : x2.alloc (.cells #[.slice none 0 0] 22) = x3 at a2 u2
  have s3 : x3.heap.size = g2 + 1 + 1 + 1 := by rw [← hw3, World.size_alloc, s2]
  have a3 := Row.new_at x3 25 #[.pointer (some ⟨b, 0, none⟩)] (g2 + 1 + 1 + 1) s3.symm
  have u3 : Upd (fun _ => False) x3 (x3.alloc (.cells #[.pointer (some ⟨b, 0, none⟩)] 25)) := (Upd.refl _ _).alloc _
  generalize hw4 : x3.alloc (.cells #[.pointer (some ⟨b, 0, none⟩)] 25) = x4 at a3 u3
  have s4 : x4.heap.size = g2 + 1 + 1 + 1 + 1 := by rw [← hw4, World.size_alloc, s3]
  have a4 := Row.new_at x4 3 #[.int .i64 (64 + (N : Int))] (g2 + 1 + 1 + 1 + 1) s4.symm
  have u4 : Upd (fun _ => False) x4 (x4.alloc (.cells #[.int .i64 (64 + (N : Int))] 3)) := (Upd.refl _ _).alloc _
  have e : loopW w2 g2 b N = x4.alloc (.cells #[.int .i64 (64 + (N : Int))] 3) := by unfold loopW; rw [hw1, hw2, hw3, hw4]
  rw [e]
  have v3 := u3.trans u4 (fun _ _ h => h)
  have v2 := u2.trans v3 (fun _ _ h => h)
  have v1 := u1.trans v2 (fun _ _ h => h)
  refine ⟨⟨by simp, u0.trans v1 (fun _ _ h => h), a0.upd v1 id, a1.upd v2 id, ⟨.slice none 0 0, a2.upd v3 id, Sl.nil_ _ _ _, by simp [Value.ownBlock]⟩, by rw [World.size_alloc, s4]; omega⟩, ?_, (a3.upd u4 id).cell 0, by rw [World.size_alloc, s4]⟩
  have := a4.cell 0
  rw [this]
  simp

theorem open_done {W0 w2 W Wf : World} {g g2 b N D : Nat} {m : List Item} {R : List Rec} {v : Value} (h : Own W0 w2 (resM g m)) (hw : w2.heap.size = g2) (hI : LoopI w2 g2 b N R W)
    (hsl : Sl W v 9 1 R.length (ssv (R.map (·.1.1)))) (hvb : ∀ k, v.ownBlock = some k → g2 + 5 ≤ k) (hu : Upd (S3 g) W Wf) (hD : g2 ≤ D) (hK : Wf.heap[D]? = some (.deferred (some []))) :
    OpenYes W0 m b N (R.map (·.1.1)) (.returned (.tuple #[.pointer (some ⟨g2, 0, none⟩), v, .int .i64 0])) (Wf.putObj D (.deferred none)) := by
  have hlt := (h.row 0 rfl).lt
  have hg := grownBy_putObj' Wf D (.deferred none)
  have hr : ∀ r, some D = some r → ∃ o : Obj, Wf.heap[r]? = some o ∧ o.isCells = false := fun r e => by cases e; exact ⟨_, hK, rfl⟩
  have hup : Upd (S3 g) w2 (Wf.putObj D (.deferred none)) := upd_put ((hI.upd.mono (fun _ _ h => h.elim)).trans hu (fun _ _ h => h)) hg (B := g2) (by omega) (fun r e => by cases e; exact hD)
  have hne : ∀ k, g2 ≤ k → ¬ S3 g k := fun k hk => by unfold S3; omega
  have h1 : Row (Wf.putObj D (.deferred none)) g2 61 (jcells b (R.map (·.1.1)) N false) := row_put (hI.jr.upd hu (hne _ (Nat.le_refl _))) hg hr
  have h2 : Sl (Wf.putObj D (.deferred none)) v 9 1 R.length (ssv (R.map (·.1.1))) := sl_put (hsl.upd hu (fun k hk => hne k (by have := hvb k hk; omega))) hg hr
  refine ⟨g2, v, rfl, res_final h hup (fun k => k = g2) (fun k => v.ownBlock = some k) ⟨h1, rfl⟩ ⟨_, h2, fun _ h => h⟩ (fun k hk => ?_) (fun k hk => ?_) (fun k hk hk' => ?_)⟩
  · have := h1.lt; omega
  · have := h2.lt hk; have := hvb k hk; omega
  · have := hvb k hk'; omega
theorem open_fin {W0 w2 W : World} {g g2 b N D : Nat} {m : List Item} {R : List Rec} {v : Value} (h : Own W0 w2 (resM g m)) (hw : w2.heap.size = g2) (hI : LoopI w2 g2 b N R W)
    (hsl : Sl W v 9 1 R.length (ssv (R.map (·.1.1)))) (hvb : ∀ k, v.ownBlock = some k → g2 + 5 ≤ k) (hD : g2 ≤ D) (hK : W.heap[D]? = some (.deferred (some []))) :
    (((W.setCell ⟨g, 0, none⟩ (.pointer (some ⟨g2, 0, none⟩))).setCell ⟨g + 1, 0, none⟩ v).setCell ⟨g + 1 + 1, 0, none⟩ (.int .i64 0)).drew.heap[D]? = some (.deferred (some [])) ∧ ((((W.setCell ⟨g, 0, none⟩ (.pointer (some ⟨g2, 0, none⟩))).setCell ⟨g + 1, 0, none⟩ v).setCell ⟨g + 1 + 1, 0, none⟩ (.int .i64 0)).drew.putObj D (.deferred none)).cell? ⟨g, 0, none⟩ = some (.pointer (some ⟨g2, 0, none⟩)) ∧ ((((W.setCell ⟨g, 0, none⟩ (.pointer (some ⟨g2, 0, none⟩))).setCell ⟨g + 1, 0, none⟩ v).setCell ⟨g + 1 + 1, 0, none⟩ (.int .i64 0)).drew.putObj D (.deferred none)).cell? ⟨g + 1, 0, none⟩ = some v ∧
    ((((W.setCell ⟨g, 0, none⟩ (.pointer (some ⟨g2, 0, none⟩))).setCell ⟨g + 1, 0, none⟩ v).setCell ⟨g + 1 + 1, 0, none⟩ (.int .i64 0)).drew.putObj D (.deferred none)).cell? ⟨g + 1 + 1, 0, none⟩ = some (.int .i64 0) ∧
    OpenYes W0 m b N (R.map (·.1.1)) (.returned (.tuple #[.pointer (some ⟨g2, 0, none⟩), v, .int .i64 0])) ((((W.setCell ⟨g, 0, none⟩ (.pointer (some ⟨g2, 0, none⟩))).setCell ⟨g + 1, 0, none⟩ v).setCell ⟨g + 1 + 1, 0, none⟩ (.int .i64 0)).drew.putObj D (.deferred none)) := by
  have hlt := (h.row 0 rfl).lt
  have hO := res_stored (h.far hI.upd) (.pointer (some ⟨g2, 0, none⟩)) v (.int .i64 0)
  have hu : Upd (S3 g) W (((W.setCell ⟨g, 0, none⟩ (.pointer (some ⟨g2, 0, none⟩))).setCell ⟨g + 1, 0, none⟩ v).setCell ⟨g + 1 + 1, 0, none⟩ (.int .i64 0)).drew := ((((Upd.refl _ W).setCell (fun _ => .inl rfl) _).setCell (fun _ => .inr (.inl rfl)) _).setCell (fun _ => .inr (.inr rfl)) _).drew
  have hKf : (((W.setCell ⟨g, 0, none⟩ (.pointer (some ⟨g2, 0, none⟩))).setCell ⟨g + 1, 0, none⟩ v).setCell ⟨g + 1 + 1, 0, none⟩ (.int .i64 0)).drew.heap[D]? = some (.deferred (some [])) := (hu.block D (Array.getElem?_eq_some_iff.1 hK).1 (by unfold S3; omega)).trans hK
  have hg := grownBy_putObj' (((W.setCell ⟨g, 0, none⟩ (.pointer (some ⟨g2, 0, none⟩))).setCell ⟨g + 1, 0, none⟩ v).setCell ⟨g + 1 + 1, 0, none⟩ (.int .i64 0)).drew D (.deferred none)
  have hr : ∀ r, some D = some r → ∃ o : Obj, (((W.setCell ⟨g, 0, none⟩ (.pointer (some ⟨g2, 0, none⟩))).setCell ⟨g + 1, 0, none⟩ v).setCell ⟨g + 1 + 1, 0, none⟩ (.int .i64 0)).drew.heap[r]? = some o ∧ o.isCells = false := fun r e => by cases e; exact ⟨_, hKf, rfl⟩
  exact ⟨hKf, (row_put (hO.row 2 rfl).drew hg hr).cell 0, (row_put (hO.row 1 rfl).drew hg hr).cell 0, (row_put (hO.row 0 rfl).drew hg hr).cell 0, open_done h hw hI hsl hvb hu hD hKf⟩
theorem open_stop {W0 w2 W : World} {g g2 D : Nat} {c : Code} {m : List Item} {pre : List Rec} (h : Own W0 w2 (resM g m)) (hw : w2.heap.size = g2) (hX : LoopX w2 g c pre W) (hD : g2 ≤ D) (hK : W.heap[D]? = some (.deferred (some []))) :
    (W.putObj D (.deferred none)).cell? ⟨g, 0, none⟩ = some (.pointer none) ∧ (W.putObj D (.deferred none)).cell? ⟨g + 1, 0, none⟩ = some (.slice none 0 0) ∧ (W.putObj D (.deferred none)).cell? ⟨g + 1 + 1, 0, none⟩ = some (.int .i64 11) ∧
    OpenNo W0 m 11 (.returned (.tuple #[.pointer none, .slice none 0 0, .int .i64 11])) (W.putObj D (.deferred none)) := by
  have hg := grownBy_putObj' W D (.deferred none)
  have hup : Upd (S3 g) w2 (W.putObj D (.deferred none)) := upd_put hX.upd hg (B := g2) (by omega) (fun r e => by cases e; exact hD)
  have hr : ∀ r, some D = some r → ∃ o : Obj, W.heap[r]? = some o ∧ o.isCells = false := fun r e => by cases e; exact ⟨_, hK, rfl⟩
  exact ⟨(row_put hX.r0 hg hr).cell 0, (row_put hX.r1 hg hr).cell 0, (row_put hX.r2 hg hr).cell 0, rfl, (res_final h hup (a := .any) (b := .any) (fun _ => False) (fun _ => False) trivial trivial (by simp) (by simp) (by simp)).tail.tail⟩

theorem recsL_length (c : List UInt8) (e : Nat) : ∀ (f a : Nat), (recsL c f a e).length ≤ f
  | 0, _ => by simp [recsL]
  | f + 1, a => by
    simp only [recsL]
    split
    · split
      · simp
      · have := recsL_length c e f (a + 4 + (valI (readL c a 4) 4).toNat)
        simp only [List.length_cons]
        omega
    · simp

set_option maxHeartbeats 8000000 in
set_option maxRecDepth 20000 in
theorem open_body {W w : World} {m : List Item} (h : Own W w m) (i : Nat) {b : Nat} {s : DSt} (hi : m[i]? = some (.disk b s)) {n : Nat} (hf : Fit n s) (hn : n ≤ 1500) {s1 : DSt} (hs : syncSt s = (0, s1))
    {N : Nat} (hv : valI (readL s1.now 0 8) 8 = N) (hN : N ≤ 16777216) (hN2 : N = 0 ∨ 64 + N ≤ s1.now.length) (R : List Rec) (hR : R.map (·.1) = recsL s1.now N 64 (64 + N)) :
    Calls Try.prog 11 #[.pointer (some ⟨b, 0, none⟩)] w fun e w' =>
      if R.all (·.1.2) then OpenYes W (m.set i (.disk b s1)) b N (R.map (·.1.1)) e w' else OpenNo W (m.set i (.disk b s1)) 11 e w' := by
  obtain ⟨g, hg⟩ : ∃ g, w.heap.size = g := ⟨_, rfl⟩
  have HS := Lib.hid hs
  have H0 := Lib.hid (res_own h hg)
  have hf1 : Fit (n + 1) s1 := by have := hf.sync; rwa [hs] at this
  have hi1 : (m.set i (.disk b s1))[i]? = some (.disk b s1) := List.getElem?_set_self (List.getElem?_eq_some_iff.1 hi).1
  have hl1 := hf1.now
  have HI := Lib.hid hi1
  have hrl := readL_length s1.now 0 8
  have hRN : R.length ≤ N := by
    have h1 := congrArg List.length hR
    have h2 := recsL_length s1.now (64 + N) N 64
    rw [List.length_map] at h1
    omega
  have HV := Lib.hid hv
  have HR := Lib.hid hR
  obtain ⟨z, hz⟩ : ∃ z, z = s1.now.length := ⟨_, rfl⟩
  rw [← hz] at hN2 hl1 hrl
  have HZ := Lib.hid hz
  obtain ⟨Post, hPost⟩ : ∃ Post : Ending → World → Prop, Post = fun e w' => if R.all (·.1.2) then OpenYes W (m.set i (.disk b s1)) b N (R.map (·.1.1)) e w' else OpenNo W (m.set i (.disk b s1)) 11 e w' := ⟨_, rfl⟩
  have HP := Lib.hid hPost
  have hmf : ∀ (fn : Fn) (first cap : Array Value) (w : World), (Instr.makeFunc fn first cap).run Try.prog w = .ok (.func fn first cap) w := fun _ _ _ _ => rfl
  have hcase : ¬ (0 : Int) < (N : Int) ∨ ((0 : Int) < (N : Int) ∧ ¬ (z : Int) < 64 + N) := by omega
  rw [← hPost]
  clear h hs hi1 hz hv hR hPost hN2
  refine (callsIn_wide (n := 10)).1 ?_
  refine callsIn_of_wp_marks Try.func11 rfl trivial ?_ rfl
  refine wpIn_wide.2 ?_
  simp only [Try.ntmps11, List.size_toArray, List.length_cons, List.length_nil, Nat.reduceAdd, Nat.reduceSub, Array.replicate_succ, Array.replicate_zero, List.push_toArray, List.append_toArray, List.nil_append, List.cons_append]
  rcases hcase with hv | ⟨hv0, hv⟩
  · go_wp2_with (first
      | (go_at_call 22; go_must (have hc := own_sync H0.out (i + 3) hi hf hn; rw [HS.out] at hc; refine hc.mono ?_; clear hc; rintro e w1 ⟨rfl, h1⟩; have H1 : Hid (Own W w1 (resM g (m.set i (.disk b s1)))) := Lib.hid h1; clear h1; obtain ⟨c1, c2, c3, f1, f2, f3⟩ := res_cells H1.out))
      | (go_at_call 24; go_must (refine (own_read H1.out (i + 3) HI.out hf1 0 8 (by decide) (by decide)).mono ?_; rintro e w2 ⟨rfl, h2⟩; have H2 : Hid (Own W w2 (resM g (m.set i (.disk b s1)))) := Lib.hid h2; clear h2; obtain ⟨c1, c2, c3, f1, f2, f3⟩ := res_cells H2.out; obtain ⟨g2, hg2⟩ : ∃ g2, w2.heap.size = g2 := ⟨_, rfl⟩))
      | (go_at_call 23; go_must (refine (value_any _ (readL s1.now 0 8) 8 (by decide) (by unfold maxLen; omega)).mono ?_; rintro e1 w3 ⟨rfl, rfl⟩; rw [HV.out]))
      | (go_at_call 25; go_must (have hc := own_size H2.out (i + 3) HI.out; rw [← HZ.out] at hc; refine hc.mono ?_; clear hc; rintro e1 w3 ⟨rfl, rfl⟩))
      | (go_at_call 26; go_must (refine (records_any _ b _).mono ?_; rintro e1 w3 ⟨rfl, rfl⟩)))
    have HST := Lib.hid (loop_start b N hg2)
    obtain ⟨Fd, hFd, hFk⟩ := H2.out.item (i + 3) HI.out
    have HFD : Hid (DiskAt (loopW w2 g2 b N) Fd b s1) := Lib.hid (ItemAt.upd hFd HST.out.i.upd (fun _ _ => id) (fun _ h => h))
    have HFK : Hid (∀ k, Fd k → k < g2) := Lib.hid (fun k hk => by have := (hFk k hk).2; omega)
    have HRS := Lib.hid (rec_stops (Wl := loopW w2 g2 b N) (R := R) hf1.now (e := 64 + N) (by omega) HST.out.ce HST.out.cx HFD.out HFK.out (by rw [Nat.add_sub_cancel_left]; exact HR.out))
    have hsz := HST.out.size
    show Code.wp _ _ _ _ (loopW w2 g2 b N)
    clear hFd hFk
    refine (wpIn_wide (n := 10)).1 ?_
    refine wpIn_rangeFunc_ownG rfl (by decide) (gf := 37) (lb := #[.pointer (some ⟨g2 + 1 + 1 + 1 + 1, 0, none⟩), .pointer (some ⟨g2 + 1 + 1 + 1, 0, none⟩)]) rfl trivial (enters_of Try.func37 (by kernel_rfl) rfl)
      HRS.out (fun h k => recKp_t h k) (fun W l o o' hl _ _ _ => recKp_put W l o' (by unfold RecS; omega)) (Below.refl _ _) (fun _ => rfl) (LoopI w2 g2 b N) (LoopX w2 g) (loopI_own w2 g2 b N _ (by omega)) (fun c => loopX_own w2 g _ (by omega) c) HST.out.i ?a1 ?assign ?body ?done ?stop
    case assign =>
      intro l x W K hK
      unfold recV
      gi_wp2
      exact hK
    case body =>
      intro l pre x W hI hlen
      exact absurd hlen (by omega)
    case done =>
      rintro D ys W hD rfl hI hK
      obtain ⟨v, hlv, hsl, hvb⟩ := hI.lv
      obtain ⟨Av, cv, rfl, hcv⟩ := hsl.form
      have e1 := hlv.cell 0
      have e3 := hI.jv.cell 0
      obtain ⟨k1, k2, k3, q1, q2, q3⟩ := res_cells (H2.out.far hI.upd)
      have HI2 := Lib.hid hI
      have HSL := Lib.hid hsl
      have HVB := Lib.hid hvb
      have HK := Lib.hid hK
      have hlt := (H2.out.row 0 rfl).lt
      have n1 : ¬ g2 + 1 = g := by omega
      have n2 : ¬ g2 = g := by omega
      have n3 : ¬ g2 + 1 + 1 = g := by omega
      have n4 : ¬ g2 = g + 1 := by omega
      have n5 : ¬ g = g2 + 1 := by omega
      have n6 : ¬ g = g2 := by omega
      have n7 : ¬ g = g2 + 1 + 1 := by omega
      have n8 : ¬ g + 1 = g2 := by omega
      clear hlv hsl hvb hI hK
      go_wp2
      go_region_held3 (fun w' => w'.cell? ⟨g2 + 1, 0, none⟩ = some (.pointer (some ⟨g2, 0, none⟩)) ∧ w'.cell? ⟨g2 + 1 + 1, 0, none⟩ = some (.slice Av ys.length cv)) (go_keep) (fail)
      all_goals go_wp2
      all_goals
        obtain ⟨hKf, k4, k5, k6, hOY⟩ := open_fin H2.out hg2 HI2.out HSL.out HVB.out (by omega) HK.out
        refine ⟨by simp, .inl ⟨_, _, rfl, run_takeDeferred hKf, ?_⟩⟩
        refine ⟨.tuple #[.pointer (some ⟨g2, 0, none⟩), .slice Av ys.length cv, .int .i64 0], ?_, ?_⟩
        · simp [results, Try.f11, go_sem, k4, k5, k6]
        · rw [HP.out]
          dsimp only
          rw [if_pos (List.all_eq_true.2 (fun x hx => HI2.out.ok x hx))]
          exact hOY
    case stop =>
      rintro D c pre W hD hpre hX hK
      have HX := Lib.hid hX
      have HK := Lib.hid hK
      obtain rfl := hX.ret
      clear hX hK
      gi_wp2
      obtain ⟨k4, k5, k6, hON⟩ := open_stop H2.out hg2 HX.out (by omega) HK.out
      refine ⟨by simp, .inl ⟨_, _, rfl, run_takeDeferred HK.out, ?_⟩⟩
      refine ⟨.tuple #[.pointer none, .slice none 0 0, .int .i64 11], ?_, ?_⟩
      · simp [results, Try.f11, go_sem, k4, k5, k6]
      · rw [HP.out]
        dsimp only
        obtain ⟨x, hx, hxf⟩ := HX.out.bad
        rw [if_neg (fun h => by rw [List.all_eq_true.1 h x (hpre.subset hx)] at hxf; cases hxf)]
        exact hON
  · go_wp2_with (first
      | (go_at_call 22; go_must (have hc := own_sync H0.out (i + 3) hi hf hn; rw [HS.out] at hc; refine hc.mono ?_; clear hc; rintro e w1 ⟨rfl, h1⟩; have H1 : Hid (Own W w1 (resM g (m.set i (.disk b s1)))) := Lib.hid h1; clear h1; obtain ⟨c1, c2, c3, f1, f2, f3⟩ := res_cells H1.out))
      | (go_at_call 24; go_must (refine (own_read H1.out (i + 3) HI.out hf1 0 8 (by decide) (by decide)).mono ?_; rintro e w2 ⟨rfl, h2⟩; have H2 : Hid (Own W w2 (resM g (m.set i (.disk b s1)))) := Lib.hid h2; clear h2; obtain ⟨c1, c2, c3, f1, f2, f3⟩ := res_cells H2.out; obtain ⟨g2, hg2⟩ : ∃ g2, w2.heap.size = g2 := ⟨_, rfl⟩))
      | (go_at_call 23; go_must (refine (value_any _ (readL s1.now 0 8) 8 (by decide) (by unfold maxLen; omega)).mono ?_; rintro e1 w3 ⟨rfl, rfl⟩; rw [HV.out]))
      | (go_at_call 25; go_must (have hc := own_size H2.out (i + 3) HI.out; rw [← HZ.out] at hc; refine hc.mono ?_; clear hc; rintro e1 w3 ⟨rfl, rfl⟩))
      | (go_at_call 26; go_must (refine (records_any _ b _).mono ?_; rintro e1 w3 ⟨rfl, rfl⟩)))
    have HST := Lib.hid (loop_start b N hg2)
    obtain ⟨Fd, hFd, hFk⟩ := H2.out.item (i + 3) HI.out
    have HFD : Hid (DiskAt (loopW w2 g2 b N) Fd b s1) := Lib.hid (ItemAt.upd hFd HST.out.i.upd (fun _ _ => id) (fun _ h => h))
    have HFK : Hid (∀ k, Fd k → k < g2) := Lib.hid (fun k hk => by have := (hFk k hk).2; omega)
    have HRS := Lib.hid (rec_stops (Wl := loopW w2 g2 b N) (R := R) hf1.now (e := 64 + N) (by omega) HST.out.ce HST.out.cx HFD.out HFK.out (by rw [Nat.add_sub_cancel_left]; exact HR.out))
    have hsz := HST.out.size
    show Code.wp _ _ _ _ (loopW w2 g2 b N)
    clear hFd hFk
    refine (wpIn_wide (n := 10)).1 ?_
    refine wpIn_rangeFunc_ownG rfl (by decide) (gf := 37) (lb := #[.pointer (some ⟨g2 + 1 + 1 + 1 + 1, 0, none⟩), .pointer (some ⟨g2 + 1 + 1 + 1, 0, none⟩)]) rfl trivial (enters_of Try.func37 (by kernel_rfl) rfl)
      HRS.out (fun h k => recKp_t h k) (fun W l o o' hl _ _ _ => recKp_put W l o' (by unfold RecS; omega)) (Below.refl _ _) (fun _ => rfl) (LoopI w2 g2 b N) (LoopX w2 g) (loopI_own w2 g2 b N _ (by omega)) (fun c => loopX_own w2 g _ (by omega) c) HST.out.i ?a2 ?assign2 ?body2 ?done2 ?stop2
    case assign2 =>
      intro l x W K hK
      unfold recV
      gi_wp2
      exact hK
    case body2 =>
      intro l pre x W hI hlen
      obtain ⟨⟨r, ok⟩, hrl2⟩ := x
      have HI2 := Lib.hid hI
      clear hI
      cases ok with
      | false =>
        have hC := HI2.out.upd
        obtain ⟨k1, k2, k3, q1, q2, q3⟩ := res_cells (H2.out.far hC)
        clear hC
        gi_wp2
        exact round_bad ⟨(r, false), hrl2⟩ rfl H2.out HI2.out.upd
      | true =>
        obtain ⟨v, hlv, hsl, hvb⟩ := HI2.out.lv
        obtain ⟨Av, cv, rfl, hcv⟩ := hsl.form
        have hmx : Try.prog.follows .mixedOrders = true := by kernel_rfl
        have hr : r.length ≤ 16777216 := hrl2
        have hWz : g2 + 5 ≤ W.heap.size := HI2.out.size
        obtain ⟨S0, hS0⟩ : ∃ S0, S0 = lensI (pre.map (·.1.1)) := ⟨_, rfl⟩
        have hS := lensI_bd pre
        rw [← hS0] at hS
        have hS1 : 0 ≤ S0 := hS.1
        have hS2 : S0 ≤ 300000000000000 := by omega
        have hpl : (pre.length : Int) ≤ 16777216 := by omega
        have HS0 := Lib.hid hS0
        clear hS
        have e1 := hlv.cell 0
        have e2 := hlv.frozen (j := 0) (by simp)
        have e3 := HI2.out.jv.cell 0
        have HLV := Lib.hid hlv
        have HSL := Lib.hid hsl
        have HVB := Lib.hid hvb
        clear hlv hsl hvb
        gi_wp2
        simp only [ap_hide]
        gi_region_with_o ((first | (show _ ∧ Oper.uponIn _ _ _ ⟨some 57, _, _, _, _, _⟩ _ _ _ _; go_must (refine ⟨fun _ _ => trivial, ?_⟩; rw [sem_append _ (.tmp 53) (.tmp 56) 22 _ (by rfl) l (by rfl) (by rfl) hap, Oper.uponIn_value])) | (refine ⟨trivial, ?_⟩; gi_at_call 27; go_must (refine (CallsIn.inRound l (callsIn_wide.2 (clone_any _ r (by omega)))).mono ?_; rintro e w4 ⟨rfl, hu4⟩; have hu5 : Upd (fun _ => False) W w4 := ⟨hu4.os, hu4.tape, hu4.output, hu4.size, hu4.block⟩; have e14 := (HLV.out.upd hu5 id).cell 0; have e15 := ((HLV.out.upd hu5 id).upd ((Upd.refl (fun _ => False) w4).alloc (.cells #[.string ⟨r.toArray⟩] 9)) id).cell 0; obtain ⟨A5, c5, w5, hap, hra⟩ := round_append r HI2.out HLV.out HSL.out HVB.out hWz hu5 (by omega); have e16 := hra.lv.cell 0; have e17 := hra.lv.frozen (j := 0) (by simp); have e18 := hra.jv.cell 0; have e19 : w5.cell? ⟨g2, 1, none⟩ = some (.int .i64 (pre.length : Int)) := (by have := hra.jr.cell 1; simpa [jcells] using this); have e20 : w5.cell? ⟨g2, 2, none⟩ = some (.int .i64 S0) := (by have := hra.jr.cell 2; rw [hS0]; simpa [jcells] using this); have e21 := hra.jr.frozen (j := 1) (by simp [jcells]); have e22 := hra.jr.frozen (j := 2) (by simp [jcells]); have HRA := Lib.hid hra; clear hra hu4 hu5 hS0))))
        all_goals gi_wp2
        all_goals exact round_end HI2.out rfl HLV.out HSL.out HVB.out HRA.out hg2 rfl (by rw [HS0.out])
    case done2 =>
      rintro D ys W hD rfl hI hK
      obtain ⟨v, hlv, hsl, hvb⟩ := hI.lv
      obtain ⟨Av, cv, rfl, hcv⟩ := hsl.form
      have e1 := hlv.cell 0
      have e3 := hI.jv.cell 0
      obtain ⟨k1, k2, k3, q1, q2, q3⟩ := res_cells (H2.out.far hI.upd)
      have HI2 := Lib.hid hI
      have HSL := Lib.hid hsl
      have HVB := Lib.hid hvb
      have HK := Lib.hid hK
      have hlt := (H2.out.row 0 rfl).lt
      have n1 : ¬ g2 + 1 = g := by omega
      have n2 : ¬ g2 = g := by omega
      have n3 : ¬ g2 + 1 + 1 = g := by omega
      have n4 : ¬ g2 = g + 1 := by omega
      have n5 : ¬ g = g2 + 1 := by omega
      have n6 : ¬ g = g2 := by omega
      have n7 : ¬ g = g2 + 1 + 1 := by omega
      have n8 : ¬ g + 1 = g2 := by omega
      clear hlv hsl hvb hI hK
      go_wp2
      go_region_held3 (fun w' => w'.cell? ⟨g2 + 1, 0, none⟩ = some (.pointer (some ⟨g2, 0, none⟩)) ∧ w'.cell? ⟨g2 + 1 + 1, 0, none⟩ = some (.slice Av ys.length cv)) (go_keep) (fail)
      all_goals go_wp2
      all_goals
        obtain ⟨hKf, k4, k5, k6, hOY⟩ := open_fin H2.out hg2 HI2.out HSL.out HVB.out (by omega) HK.out
        refine ⟨by simp, .inl ⟨_, _, rfl, run_takeDeferred hKf, ?_⟩⟩
        refine ⟨.tuple #[.pointer (some ⟨g2, 0, none⟩), .slice Av ys.length cv, .int .i64 0], ?_, ?_⟩
        · simp [results, Try.f11, go_sem, k4, k5, k6]
        · rw [HP.out]
          dsimp only
          rw [if_pos (List.all_eq_true.2 (fun x hx => HI2.out.ok x hx))]
          exact hOY
    case stop2 =>
      rintro D c pre W hD hpre hX hK
      have HX := Lib.hid hX
      have HK := Lib.hid hK
      obtain rfl := hX.ret
      clear hX hK
      gi_wp2
      obtain ⟨k4, k5, k6, hON⟩ := open_stop H2.out hg2 HX.out (by omega) HK.out
      refine ⟨by simp, .inl ⟨_, _, rfl, run_takeDeferred HK.out, ?_⟩⟩
      refine ⟨.tuple #[.pointer none, .slice none 0 0, .int .i64 11], ?_, ?_⟩
      · simp [results, Try.f11, go_sem, k4, k5, k6]
      · rw [HP.out]
        dsimp only
        obtain ⟨x, hx, hxf⟩ := HX.out.bad
        rw [if_neg (fun h => by rw [List.all_eq_true.1 h x (hpre.subset hx)] at hxf; cases hxf)]
        exact hON
end Go.Proofs.Ytcbpgmoegfkhnaa
