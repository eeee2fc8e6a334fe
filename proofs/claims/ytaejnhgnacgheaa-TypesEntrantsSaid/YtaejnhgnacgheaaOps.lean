/- The laws of XMem as laws for an operation of a walk: append, append of zeros, copy, conversions between strings and byte slices. No program in sight. -/
import Derived.Test.YtaejnhgnacgheaaMem
import Derived.Laws.IdiomStrings
import Derived.Laws.BytesArg
namespace Go.Proofs.Ytaejnhgnacgheaa
set_option linter.unusedSimpArgs false
set_option linter.unusedVariables false
open Go.RowKit

/-- What the tables say of a slice type t over elements e. -/
structure SlT (P : Program) (t e size bytes : Nat) (z : Value) : Prop where
  u : P.underlying t = some (.slice e)
  i : ∃ i, P.info? e = some i ∧ i.zero = some z ∧ i.size = size ∧ i.bytes = bytes
  zs : z.cells.size = size

theorem SlT.of {P : Program} {t e size bytes : Nat} {z : Value} (h : P.underlying t = some (.slice e)) (hi : (P.info? e).map (fun i => (i.zero, i.size, i.bytes)) = some (some z, size, bytes)) (hz : z.cells.size = size) :
    SlT P t e size bytes z := ⟨h, info_parts hi, hz⟩

/-- bytes as values -/
def bvs (bs : List UInt8) : List Value := bs.map fun b => .int .u8 b.toNat
theorem bvs_length (bs : List UInt8) : (bvs bs).length = bs.length := by simp [bvs]
theorem bvs_append (a b : List UInt8) : bvs (a ++ b) = bvs a ++ bvs b := by simp [bvs]
theorem bvs_take (a : List UInt8) (n : Nat) : (bvs a).take n = bvs (a.take n) := by simp [bvs]
theorem bvs_drop (a : List UInt8) (n : Nat) : (bvs a).drop n = bvs (a.drop n) := by simp [bvs]
theorem bvs_zeros (n : Nat) : List.replicate n (Value.int .u8 0) = bvs (List.replicate n 0) := by simp [bvs]
theorem bvs_ones (a : List UInt8) : Ones (bvs a) := by
  intro u hu
  simp only [bvs, List.mem_map] at hu
  obtain ⟨b, _, rfl⟩ := hu
  rfl
theorem bvs_get (a : List UInt8) (j : Nat) : (bvs a)[j]? = a[j]?.map fun b => .int .u8 b.toNat := by simp [bvs]

section
variable {P : Program} {w : World} {o : Oper} {a : Act} {K : Act → World → Prop} {Q : Exit → Act → World → Prop}

theorem wp_append_sl (s x : Operand) (t : TypeId) (ho : o.op = .call { callee := .builtin .append, args := #[s, x], argTypes := #[t, t] })
    {e size bytes : Nat} {z : Value} (T : SlT P t e size bytes z) {v : Value} {n : Nat} {xs : List Value} (hv : a.eval s = v) (hs : Sl w v e size n xs)
    {y : Value} {m : Nat} {news : List Value} (hy : a.eval x = y) (hx : Rd w y size m news) (h1 : Ones news) (h63 : n + m ≤ maxLen) (hb : (n + m) * bytes ≤ 140737488355328)
    (h : ∀ v' w', Appended w v e size (n + m) (xs ++ news) v' w' → K (a.put o.dst v') w') : o.wp P a w K Q := by
  obtain ⟨i, hi, hz, hsz, hby⟩ := T.i
  obtain ⟨v', w', hr, hA⟩ := run_append_sl (P := P) w t o.type e i z size bytes T.u hi hz hsz hby T.zs v n xs hs y m news hx h1 h63 hb
  unfold Oper.wp execOp
  simp only [ho, resolve, invoke, builtin, Sem.run_bind, Sem.run_pure, Result.andThen_ok, List.map_toArray, List.map_cons, List.map_nil, hv, hy, hr]
  exact h v' w' hA

theorem wp_append_zeros (s x : Operand) (t ti : TypeId) (ho : o.op = .call { callee := .builtin .append, args := #[s, x], argTypes := #[t, ti] })
    {e bytes : Nat} {z : Value} (T : SlT P t e 1 bytes z) {ki kk : IntKind} (hti : P.underlying ti = some (.int ki)) (hzc : z.cells = #[z]) (hz1 : z.oneCell' = true) {v : Value} {n : Nat} {xs : List Value} (hv : a.eval s = v) (hs : Sl w v e 1 n xs)
    {m : Nat} (hy : a.eval x = .int kk m) (h63 : n + m ≤ maxLen) (hb : (n + m) * bytes ≤ 140737488355328)
    (h : ∀ v' w', Appended w v e 1 (n + m) (xs ++ List.replicate m z) v' w' → K (a.put o.dst v') w') : o.wp P a w K Q := by
  obtain ⟨i, hi, hz, hsz, hby⟩ := T.i
  obtain ⟨v', w', hr, hA⟩ := run_append_zeros (P := P) w t ti o.type e ki kk i z bytes T.u hti hi hz hsz hby hzc hz1 v n xs hs m h63 hb
  unfold Oper.wp execOp
  simp only [ho, resolve, invoke, builtin, Sem.run_bind, Sem.run_pure, Result.andThen_ok, List.map_toArray, List.map_cons, List.map_nil, hv, hy, hr]
  exact h v' w' hA

/-- What a copy may leave. -/
structure Copied (w : World) (v : Value) (e : TypeId) (n : Nat) (xs : List Value) (m : Nat) (news : List Value) (w' : World) : Prop where
  sl : Sl w' v e 1 n (news.take n ++ xs.drop m)
  upd : Upd (fun k => v.ownBlock = some k) w w'
  size : w'.heap.size = w.heap.size
  row : ∀ g off cap cs, v = .slice (some ⟨g, off, none⟩) n cap → Row w g e cs → Row w' g e (cs.take off ++ (news.take n ++ cs.drop (off + min m n)))

theorem wp_copy_sl (d x : Operand) (dT sT : TypeId) (ho : o.op = .call { callee := .builtin .copy, args := #[d, x], argTypes := #[dT, sT] })
    {e bytes : Nat} {z : Value} (T : SlT P dT e 1 bytes z) {v : Value} {n : Nat} {xs : List Value} (hv : a.eval d = v) (hs : Sl w v e 1 n xs)
    {y : Value} {m : Nat} {news : List Value} (hy : a.eval x = y) (hx : Rd w y 1 m news) (h1 : Ones news)
    (h : ∀ w', Copied w v e n xs m news w' → K (a.put o.dst (goInt (Nat.min m n))) w') : o.wp P a w K Q := by
  obtain ⟨i, hi, hz, hsz, hby⟩ := T.i
  obtain ⟨w', hr, h2, h3, h4, h5⟩ := run_copy_sl (P := P) w dT sT o.type e T.u (by rw [hi]; exact congrArg some hsz) v n xs hs y m news hx h1
  unfold Oper.wp execOp
  simp only [ho, resolve, invoke, builtin, Sem.run_bind, Sem.run_pure, Result.andThen_ok, List.map_toArray, List.map_cons, List.map_nil, hv, hy, hr]
  exact h w' ⟨h2, h3, h4, h5⟩

/-- A new slice of bytes, in a block of its own. -/
structure NewBytes (e : TypeId) (w : World) (v : Value) (bs : List UInt8) (w' : World) : Prop where
  sl : Sl w' v e 1 bs.length (bvs bs)
  upd : Upd (fun _ => False) w w'
  at_ : v.ownBlock = some w.heap.size ∧ w'.heap.size = w.heap.size + 1

theorem bytesRow_sl (w : World) (e : TypeId) (t : ByteArray) (cap : Nat) (h : t.size ≤ cap) (hm : cap ≤ maxLen) :
    Sl (w.alloc (.cells (bytesRow t cap) e ((bytesRow t cap).size, (bytesRow t cap).size + 1))) (.slice (some ⟨w.heap.size, 0, none⟩) t.size cap) e 1 t.size (bvs t.data.toList) := by
  have hl : t.data.toList.length = t.size := Array.length_toList
  refine ⟨by rw [bvs_length, hl, Nat.mul_one], .inr ⟨w.heap.size, 0, cap, _, rfl, Row.new_mark w e _ _, h, hm, ?_, ?_⟩⟩
  · have e : t.data.size = t.size := rfl
    simp [bytesRow, e]; omega
  · simp only [bytesRow, List.drop_zero, Array.toList_append, Array.toList_map, Nat.mul_one]
    rw [← hl, List.take_append_of_le_length (by simp), List.take_of_length_le (by simp)]
    rfl

theorem run_bytes_new (src dst e : TypeId) (s : ByteArray) (hs : P.underlying src = some .string) (hd : P.underlying dst = some (.slice e)) (he : P.underlying e = some (.int .u8)) (hm : s.size ≤ maxLen) :
    ∃ v w', (convert src dst (.string s)).run P w = .ok v w' ∧ NewBytes e w v s.data.toList w' := by
  have hl : s.data.toList.length = s.size := Array.length_toList
  refine ⟨_, _, run_bytes_of_string w src dst e s hs hd he, ⟨by rw [bvs_length]; simp, .inr ⟨w.heap.size, 0, _, _, by rw [hl], Row.new_mark w.drew e _ _, ?_, grownCap_le_maxLen w _ _ _ hm, ?_, ?_⟩⟩, ((Upd.refl _ w).drew).alloc _, rfl, by simp⟩
  · rw [hl]; exact grownCap_ge w _ _ _
  · have := grownCap_ge w s.size 0 e
    have e : s.data.size = s.size := rfl
    simp [bytesRow, e]; omega
  · simp only [bytesRow, List.drop_zero, Array.toList_append, Array.toList_map, Nat.mul_one]
    rw [List.take_append_of_le_length (by simp), List.take_of_length_le (by simp)]
    rfl

theorem run_string_rd (src e : TypeId) (hs : P.underlying src = some (.slice e)) (he : P.underlying e = some (.int .u8)) {dst : TypeId} (hd : P.underlying dst = some .string)
    {x : Value} {n : Nat} {bs : List UInt8} (hx : Rd w x 1 n (bvs bs)) : (convert src dst x).run P w = .ok (.string ⟨bs.toArray⟩) w := by
  obtain ⟨hl, A, c, rfl, hnc, h0, hc⟩ := hx
  rw [bvs_length] at hl
  have hl' : bs.length = n := by simpa using hl
  subst hl'
  cases A with
  | none =>
    have : bs = [] := List.eq_nil_of_length_eq_zero (h0 rfl)
    subst this
    rw [run_convert_bytes_nil w src e hs he _ _ dst hd]
    rfl
  | some ad =>
    obtain ⟨hsp, hcc⟩ := hc ad rfl
    refine run_convert_bytes_back w src dst e ad c bs hs he hd (fun j hj => ?_)
    have he2 : ad.add j = ⟨ad.block, ad.off + j, none⟩ := by
      unfold Addr.add
      split
      · rename_i h0; subst h0; cases ad; simp_all
      · rfl
    rw [he2]
    exact hcc j _ (by rw [bvs_get, List.getElem?_eq_getElem hj]; rfl)

theorem wp_bytes_new (src dst e : TypeId) (x : Operand) (ho : o.op = .convert src dst x) (hs : P.underlying src = some .string) (hd : P.underlying dst = some (.slice e)) (he : P.underlying e = some (.int .u8))
    {s : ByteArray} (hv : a.eval x = .string s) (hm : s.size ≤ maxLen) (h : ∀ v w', NewBytes e w v s.data.toList w' → K (a.put o.dst v) w') : o.wp P a w K Q := by
  obtain ⟨v, w', hr, hN⟩ := run_bytes_new (P := P) (w := w) src dst e s hs hd he hm
  unfold Oper.wp execOp
  simp only [ho, Sem.run_bind, Sem.run_pure, Sem.run_map, Result.andThen_ok, hv, hr]
  exact h v w' hN

variable {ops : Array Oper} {rest : List Oper}

theorem wpList_append_sl (hgd : o.guard = none) (s x : Operand) (t : TypeId) (ho : o.op = .call { callee := .builtin .append, args := #[s, x], argTypes := #[t, t] })
    {e size bytes : Nat} {z : Value} (T : SlT P t e size bytes z) {v : Value} {n : Nat} {xs : List Value} (hv : a.eval s = v) (hs : Sl w v e size n xs)
    {y : Value} {m : Nat} {news : List Value} (hy : a.eval x = y) (hx : Rd w y size m news) (h1 : Ones news) (h63 : n + m ≤ maxLen) (hb : (n + m) * bytes ≤ 140737488355328)
    (h : ∀ v' w', Appended w v e size (n + m) (xs ++ news) v' w' → wpList P ops Q rest (a.put o.dst v') w') : wpList P ops Q (o :: rest) a w :=
  wpList_plain hgd fun _ hK => wp_append_sl s x t ho T hv hs hy hx h1 h63 hb fun v' w' hA => hK _ _ (h v' w' hA)

theorem wpList_append_zeros (hgd : o.guard = none) (s x : Operand) (t ti : TypeId) (ho : o.op = .call { callee := .builtin .append, args := #[s, x], argTypes := #[t, ti] })
    {e bytes : Nat} {z : Value} (T : SlT P t e 1 bytes z) {ki kk : IntKind} (hti : P.underlying ti = some (.int ki)) (hzc : z.cells = #[z]) (hz1 : z.oneCell' = true) {v : Value} {n : Nat} {xs : List Value} (hv : a.eval s = v) (hs : Sl w v e 1 n xs)
    {m : Nat} (hy : a.eval x = .int kk m) (h63 : n + m ≤ maxLen) (hb : (n + m) * bytes ≤ 140737488355328)
    (h : ∀ v' w', Appended w v e 1 (n + m) (xs ++ List.replicate m z) v' w' → wpList P ops Q rest (a.put o.dst v') w') : wpList P ops Q (o :: rest) a w :=
  wpList_plain hgd fun _ hK => wp_append_zeros s x t ti ho T hti hzc hz1 hv hs hy h63 hb fun v' w' hA => hK _ _ (h v' w' hA)

theorem wpList_copy_sl (hgd : o.guard = none) (d x : Operand) (dT sT : TypeId) (ho : o.op = .call { callee := .builtin .copy, args := #[d, x], argTypes := #[dT, sT] })
    {e bytes : Nat} {z : Value} (T : SlT P dT e 1 bytes z) {v : Value} {n : Nat} {xs : List Value} (hv : a.eval d = v) (hs : Sl w v e 1 n xs)
    {y : Value} {m : Nat} {news : List Value} (hy : a.eval x = y) (hx : Rd w y 1 m news) (h1 : Ones news)
    (h : ∀ w', Copied w v e n xs m news w' → wpList P ops Q rest (a.put o.dst (goInt (Nat.min m n))) w') : wpList P ops Q (o :: rest) a w :=
  wpList_plain hgd fun _ hK => wp_copy_sl d x dT sT ho T hv hs hy hx h1 fun w' hA => hK _ _ (h w' hA)

theorem wpList_bytes_new (hgd : o.guard = none) (src dst e : TypeId) (x : Operand) (ho : o.op = .convert src dst x) (hs : P.underlying src = some .string) (hd : P.underlying dst = some (.slice e)) (he : P.underlying e = some (.int .u8))
    {s : ByteArray} (hv : a.eval x = .string s) (hm : s.size ≤ maxLen) (h : ∀ v w', NewBytes e w v s.data.toList w' → wpList P ops Q rest (a.put o.dst v) w') : wpList P ops Q (o :: rest) a w :=
  wpList_plain hgd fun _ hK => wp_bytes_new src dst e x ho hs hd he hv hm fun v' w' hA => hK _ _ (h v' w' hA)
end

theorem wpList_bytes_newL {P : Program} {w : World} {o : Oper} {a : Act} {Q : Exit → Act → World → Prop} {ops : Array Oper} {rest : List Oper} (hgd : o.guard = none) (src dst e : TypeId) (x : Operand) (ho : o.op = .convert src dst x) (hs : P.underlying src = some .string) (hd : P.underlying dst = some (.slice e)) (he : P.underlying e = some (.int .u8))
    {l : List UInt8} (hv : a.eval x = .string ⟨l.toArray⟩) (hm : l.length ≤ maxLen) (h : ∀ v w', NewBytes e w v l w' → wpList P ops Q rest (a.put o.dst v) w') : wpList P ops Q (o :: rest) a w :=
  wpList_bytes_new hgd src dst e x ho hs hd he hv hm h

section
variable {P : Program} {w : World} {o : Oper} {a : Act} {K : Act → World → Prop} {Q : Exit → Act → World → Prop} {ops : Array Oper} {rest : List Oper}

/-- string(b) -/
theorem wp_string_rd (src dst e : TypeId) (x : Operand) (ho : o.op = .convert src dst x) (hs : P.underlying src = some (.slice e)) (he : P.underlying e = some (.int .u8)) (hd : P.underlying dst = some .string)
    {y : Value} {n : Nat} {bs : List UInt8} (hv : a.eval x = y) (hx : Rd w y 1 n (bvs bs)) (h : K (a.put o.dst (.string ⟨bs.toArray⟩)) w) : o.wp P a w K Q := by
  have hr := run_string_rd (P := P) (w := w) src e hs he hd hx
  unfold Oper.wp execOp
  simp only [ho, Sem.run_bind, Sem.run_pure, Sem.run_map, Result.andThen_ok, hv, hr]
  exact h
theorem wpList_string_rd (hgd : o.guard = none) (src dst e : TypeId) (x : Operand) (ho : o.op = .convert src dst x) (hs : P.underlying src = some (.slice e)) (he : P.underlying e = some (.int .u8)) (hd : P.underlying dst = some .string)
    {y : Value} {n : Nat} {bs : List UInt8} (hv : a.eval x = y) (hx : Rd w y 1 n (bvs bs)) (h : wpList P ops Q rest (a.put o.dst (.string ⟨bs.toArray⟩)) w) : wpList P ops Q (o :: rest) a w :=
  wpList_plain hgd fun _ hK => wp_string_rd src dst e x ho hs he hd hv hx (hK _ _ h)

/-- A new slice of zeros, in a block of its own. -/
structure NewRow (w : World) (v : Value) (e size n : Nat) (xs : List Value) (w' : World) : Prop where
  sl : Sl w' v e size n xs
  upd : Upd (fun _ => False) w w'
  at_ : v.ownBlock = some w.heap.size ∧ w'.heap.size = w.heap.size + 1

/-- make([]T, n, c), the elements of one cell -/
theorem wp_make_zeros (l c : Operand) (t : TypeId) (ho : o.op = .makeSlice t l c) {e bytes : Nat} {z : Value} (T : SlT P t e 1 bytes z) (hzc : z.cells = #[z]) {kl kc : IntKind} {n m : Nat} (hl : a.eval l = .int kl n) (hc : a.eval c = .int kc m)
    (hnm : n ≤ m) (hb : bytes * m ≤ 281474976710656) (hm : m ≤ maxLen) (h : ∀ v w', NewRow w v e 1 n (List.replicate n z) w' → K (a.put o.dst v) w') : o.wp P a w K Q := by
  obtain ⟨i, hi, hz, hsz, hby⟩ := T.i
  have hb' : (i.bytes : Int) * (m : Int) ≤ 281474976710656 := by rw [hby, ← Int.natCast_mul]; omega
  have hr := run_make (P := P) w t e i z T.u hi hz kl kc (n : Int) (m : Int) (by omega) (by omega) hb' (by unfold maxLen at hm; omega)
  simp only [Int.toNat_natCast, hsz, Nat.mul_one, hzc] at hr
  unfold Oper.wp execOp
  simp only [ho, hl, hc, Sem.run_bind, Sem.run_pure, Sem.run_map, hr, Result.andThen_ok, Oper.upon]
  refine h _ _ ⟨⟨by simp, .inr ⟨w.heap.size, 0, m, _, rfl, Row.new w e _, hnm, hm, ?_, ?_⟩⟩, (Upd.refl _ w).alloc _, rfl, by simp⟩
  · simp [toList_madeCells_one]
  · simp [toList_madeCells_one, Nat.min_eq_left hnm]
theorem wpList_make_zeros (hgd : o.guard = none) (l c : Operand) (t : TypeId) (ho : o.op = .makeSlice t l c) {e bytes : Nat} {z : Value} (T : SlT P t e 1 bytes z) (hzc : z.cells = #[z]) {kl kc : IntKind} {n m : Nat} (hl : a.eval l = .int kl n) (hc : a.eval c = .int kc m)
    (hnm : n ≤ m) (hb : bytes * m ≤ 281474976710656) (hm : m ≤ maxLen) (h : ∀ v w', NewRow w v e 1 n (List.replicate n z) w' → wpList P ops Q rest (a.put o.dst v) w') : wpList P ops Q (o :: rest) a w :=
  wpList_plain hgd fun _ hK => wp_make_zeros l c t ho T hzc hl hc hnm hb hm fun v w' hN => hK _ _ (h v w' hN)
end

/-- cutting a slice at its head -/
theorem Sl.cut {w : World} {A : Option Addr} {e size n c : Nat} {xs : List Value} (h : Sl w (.slice A n c) e size n xs) {k : Nat} (hk : k ≤ n) :
    Sl w (.slice (if c = k then A else A.map (·.add (k * size))) (n - k) (c - k)) e size (n - k) (xs.drop (k * size)) := by
  refine ⟨by rw [List.length_drop, h.1, Nat.sub_mul], ?_⟩
  rcases h.2 with ⟨hv, rfl⟩ | ⟨g, off, cap, cs, hv, hr, hnc, hcm, hl, ht⟩
  · cases hv
    exact .inl ⟨by simp, by omega⟩
  · cases hv
    by_cases hck : c = k
    · subst hck
      have : n = c := by omega
      subst this
      rw [if_pos rfl]
      refine .inr ⟨g, off, _, cs, rfl, hr, by omega, by omega, by simp; omega, ?_⟩
      simp [← ht]
    · rw [if_neg hck]
      refine .inr ⟨g, off + k * size, c - k, cs, by simp [Addr.add_lit], hr, by omega, by omega, ?_, ?_⟩
      · have : k * size + (c - k) * size = c * size := by rw [← Nat.add_mul]; congr 1; omega
        omega
      · rw [← ht, List.drop_take, List.drop_drop, Nat.sub_mul]
theorem Sl.cut1 {w : World} {A : Option Addr} {e n c : Nat} {xs : List Value} (h : Sl w (.slice A n c) e 1 n xs) {k : Nat} (hk : k ≤ n) :
    Sl w (.slice (if c = k then A else A.map (fun x => x.add k)) (n - k) (c - k)) e 1 (n - k) (xs.drop k) := by
  have := h.cut hk
  simp only [Nat.mul_one] at this
  exact this
theorem cut_own {A : Option Addr} {c k j n m : Nat} : (Value.slice (if c = k then A else A.map (·.add j)) n m).ownBlock = (Value.slice A n m).ownBlock := by
  split
  · rfl
  · cases A with
    | none => rfl
    | some ad => simp only [Option.map_some, Value.ownBlock]; congr 1; unfold Addr.add; split <;> rfl

theorem cut_own1 {A : Option Addr} {c k j n m n' m' : Nat} : (Value.slice (if c = k then A else A.map (fun x => x.add j)) n m).ownBlock = (Value.slice A n' m').ownBlock := by
  split
  · cases A <;> rfl
  · cases A with
    | none => rfl
    | some ad => simp only [Option.map_some, Value.ownBlock]; congr 1; unfold Addr.add; split <;> rfl

section
variable {P : Program} {w : World} {o : Oper} {a : Act} {K : Act → World → Prop} {Q : Exit → Act → World → Prop} {ops : Array Oper} {rest : List Oper} {E : Prop}

/-- a law for one operation, at a step of a region that draws its order -/
theorem step_of (hgd : o.guard = none) (h : o.wp P a w K Q) : if Region.wanted o (yielded ops a.tmps) = true then Oper.wp P o a w K Q else E := by
  have hw : Region.wanted o (yielded ops a.tmps) = true := by simp [Region.wanted, hgd]
  rw [if_pos hw]
  exact h

/-- min of two ints, its value named -/
theorem wp_min (x y : Operand) (ts : Array TypeId) (ho : o.op = .call { callee := .builtin .min, args := #[x, y], argTypes := ts }) {kk kk' : IntKind} {p r q : Int} (hx : a.eval x = .int kk p) (hy : a.eval y = .int kk' r)
    (hq : (if r < p then r else p) = q) (h : K (a.put o.dst (.int kk q)) w) : o.wp P a w K Q := by
  unfold Oper.wp execOp
  simp only [ho, resolve, invoke, builtin, Sem.run_bind, Sem.run_pure, Result.andThen_ok, List.map_toArray, List.map_cons, List.map_nil, hx, hy, run_min_int2, hq]
  exact h
theorem wpList_min (hgd : o.guard = none) (x y : Operand) (ts : Array TypeId) (ho : o.op = .call { callee := .builtin .min, args := #[x, y], argTypes := ts }) {kk kk' : IntKind} {p r q : Int} (hx : a.eval x = .int kk p) (hy : a.eval y = .int kk' r)
    (hq : (if r < p then r else p) = q) (h : wpList P ops Q rest (a.put o.dst (.int kk q)) w) : wpList P ops Q (o :: rest) a w :=
  wpList_plain hgd fun _ hK => wp_min x y ts ho hx hy hq (hK _ _ h)
end

/-- The address of a cut slice, its 'if' hidden. -/
def CutAt (A : Option Addr) (c l size : Nat) (ao : Option Addr) : Prop := ao = if c = l then A else A.map (·.add (l * size))

theorem CutAt.sl {w : World} {A ao : Option Addr} {e size n c l : Nat} {xs : List Value} (ha : CutAt A c l size ao) (h : Sl w (.slice A n c) e size n xs) (hl : l ≤ n) :
    Sl w (.slice ao (n - l) (c - l)) e size (n - l) (xs.drop (l * size)) := by
  subst ha
  exact h.cut hl
theorem CutAt.own {A ao : Option Addr} {c l size n m n' m' : Nat} (ha : CutAt A c l size ao) : (Value.slice ao n m).ownBlock = (Value.slice A n' m').ownBlock := by
  subst ha
  exact cut_own1

section
variable {P : Program} {w : World} {o : Oper} {a : Act} {K : Act → World → Prop} {Q : Exit → Act → World → Prop} {ops : Array Oper} {rest : List Oper}

/-- s[l:] -/
theorem wp_cut (x l : Operand) (t : TypeId) (ho : o.op = .slice t x (some l) none none) {e size bytes : Nat} {z : Value} (T : SlT P t e size bytes z) {A : Option Addr} {n c : Nat} (hx : a.eval x = .slice A n c)
    {kk : IntKind} {off : Nat} (hl : a.eval l = .int kk off) (hoff : off ≤ n)
    (h : ∀ ao, CutAt A c off size ao → K (a.put o.dst (.slice ao (n - off) (c - off))) w) : o.wp P a w K Q := by
  obtain ⟨i, hi, _, hsz, _⟩ := T.i
  have hu := T.u
  have he : P.underlying t = some (.slice (P.elem t)) := by simp [Program.elem, hu]
  have hee : P.elem t = e := by simp [Program.elem, hu]
  have hr := run_slice_l (P := P) w t A n c he kk (off : Int) (by omega) (by omega)
  unfold Oper.wp execOp
  simp only [ho, hx, hl, Option.map_some, Option.map_none, Sem.run_bind, Sem.run_map, Sem.run_pure, run_sliceAt_slice w t _ _ _ _ he, hr, hee]
  simp only [sizeOf, typeInfo, Sem.run_bind, run_program, Result.andThen_ok, hi, Sem.run_pure, Oper.upon, sliced, Int.toNat_natCast, hsz, Sem.run_map]
  exact h _ rfl

/-- s[:h] -/
theorem wp_cutTo (x l : Operand) (t : TypeId) (ho : o.op = .slice t x none (some l) none) {e size bytes : Nat} {z : Value} (T : SlT P t e size bytes z) {A : Option Addr} {n c : Nat} (hx : a.eval x = .slice A n c)
    {kk : IntKind} {to : Nat} (hl : a.eval l = .int kk to) (hoff : to ≤ c)
    (h : K (a.put o.dst (.slice A to c)) w) : o.wp P a w K Q := by
  obtain ⟨i, hi, _, hsz, _⟩ := T.i
  have hu := T.u
  have he : P.underlying t = some (.slice (P.elem t)) := by simp [Program.elem, hu]
  have hee : P.elem t = e := by simp [Program.elem, hu]
  have hr := run_slice_h (P := P) w t A n c he kk (to : Int) (by omega) (by omega)
  have hmap : A.map (fun x => x.add (0 * i.size)) = A := by cases A <;> simp [Addr.add]
  unfold Oper.wp execOp
  simp only [ho, hx, hl, Option.map_some, Option.map_none, Sem.run_bind, Sem.run_map, Sem.run_pure, run_sliceAt_slice w t _ _ _ _ he, hr, hee]
  simp only [sizeOf, typeInfo, Sem.run_bind, run_program, Result.andThen_ok, hi, Sem.run_pure, Oper.upon, sliced, Int.toNat_natCast, Sem.run_map, hmap, ite_self, Nat.sub_zero]
  exact h

theorem wpList_cut (hgd : o.guard = none) (x l : Operand) (t : TypeId) (ho : o.op = .slice t x (some l) none none) {e size bytes : Nat} {z : Value} (T : SlT P t e size bytes z) {A : Option Addr} {n c : Nat} (hx : a.eval x = .slice A n c)
    {kk : IntKind} {off : Nat} (hl : a.eval l = .int kk off) (hoff : off ≤ n)
    (h : ∀ ao, CutAt A c off size ao → wpList P ops Q rest (a.put o.dst (.slice ao (n - off) (c - off))) w) : wpList P ops Q (o :: rest) a w :=
  wpList_plain hgd fun _ hK => wp_cut x l t ho T hx hl hoff fun ao ha => hK _ _ (h ao ha)
theorem wpList_cutTo (hgd : o.guard = none) (x l : Operand) (t : TypeId) (ho : o.op = .slice t x none (some l) none) {e size bytes : Nat} {z : Value} (T : SlT P t e size bytes z) {A : Option Addr} {n c : Nat} (hx : a.eval x = .slice A n c)
    {kk : IntKind} {to : Nat} (hl : a.eval l = .int kk to) (hoff : to ≤ c)
    (h : wpList P ops Q rest (a.put o.dst (.slice A to c)) w) : wpList P ops Q (o :: rest) a w :=
  wpList_plain hgd fun _ hK => wp_cutTo x l t ho T hx hl hoff (hK _ _ h)
end

end Go.Proofs.Ytaejnhgnacgheaa
