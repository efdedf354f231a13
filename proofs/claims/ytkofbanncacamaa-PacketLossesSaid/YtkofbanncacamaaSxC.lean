/- The operations' rules, first part: values, arithmetic, loads, stores, new blocks, calls. -/
import Derived.Test.YtkofbanncacamaaSxB
import Derived.Laws.Entries
import Derived.Laws.Strings
import Derived.Laws.Strings2
import Derived.Laws.Cells
import Derived.Laws.Slices
import Derived.Laws.Concat
import Derived.Lib.Strings
namespace Go.Proofs.Ytkofbanncacamaa
namespace Sx

/-- A block of cells that may be written. -/
def row (b : Nat) (t : TypeId) (cs : List Value) : HP := fun h => ∃ fr : Nat × Nat, (∀ i, i < cs.length → ¬ (fr.1 ≤ i ∧ i < fr.2)) ∧ h = one b (.cells cs.toArray t fr)
def S (l : List UInt8) : Value := .string ⟨l.toArray⟩
def I (n : Int) : Value := .int .i64 n
def P1 (b : Nat) (off : Nat) : Value := .pointer (some ⟨b, off, none⟩)
def SL (b off n c : Nat) : Value := .slice (some ⟨b, off, none⟩) n c
def T2 (a b : Value) : Value := .tuple #[a, b]

theorem Sat.rowGet {w : World} {As : List HP} (h : Sat w As) (i : Nat) {b : Nat} {t : TypeId} {cs : List Value} (hi : As[i]? = some (row b t cs)) :
    ∃ fr : Nat × Nat, (∀ i, i < cs.length → ¬ (fr.1 ≤ i ∧ i < fr.2)) ∧ w.heap[b]? = some (.cells cs.toArray t fr) := by
  obtain ⟨H, a⟩ := h
  obtain ⟨fr, h1, h2⟩ := a.ok i _ hi
  exact ⟨fr, h1, a.inn i (lt_of_get hi) b _ (by rw [h2]; exact one_self b _)⟩
theorem Sat.rowNe {w : World} {As : List HP} (h : Sat w As) (i j : Nat) {b b' : Nat} {t t' : TypeId} {cs cs' : List Value} (hi : As[i]? = some (row b t cs)) (hj : As[j]? = some (row b' t' cs')) (hij : i ≠ j) : b ≠ b' := by
  obtain ⟨H, a⟩ := h
  obtain ⟨fr, h1, h2⟩ := a.ok i _ hi
  obtain ⟨fr', h1', h2'⟩ := a.ok j _ hj
  intro hb; subst hb
  have := a.dj i j (lt_of_get hi) (lt_of_get hj) hij b
  rw [h2, h2'] at this; simp [one] at this
theorem cellOf {w : World} {b : Nat} {t : TypeId} {cs : List Value} {fr : Nat × Nat} (h : w.heap[b]? = some (.cells cs.toArray t fr)) (off : Nat) : w.cell? ⟨b, off, none⟩ = cs[off]? := by
  simp [World.cell?, h]
theorem Sat.cell {w : World} {As : List HP} (h : Sat w As) (i : Nat) {b : Nat} {t : TypeId} {cs : List Value} (hi : As[i]? = some (row b t cs)) (off : Nat) : w.cell? ⟨b, off, none⟩ = cs[off]? := by
  obtain ⟨fr, _, h2⟩ := h.rowGet i hi; exact cellOf h2 off
theorem Sat.cellEx {w : World} {As : List HP} (h : Sat w As) (i : Nat) {g : Hl} (hi : As[i]? = some (ex g)) {b : Nat} {t : TypeId} {cs : Array Value} {fr : Nat × Nat} (hg : g b = some (.cells cs t fr)) (off : Nat) : w.cell? ⟨b, off, none⟩ = cs[off]? := by
  have := h.getEx i hi hg; simp [World.cell?, this]
theorem Sat.rowSet {w w' : World} {As : List HP} (h : Sat w As) (i : Nat) {b : Nat} {t : TypeId} {cs cs' : List Value} {fr : Nat × Nat} (hi : As[i]? = some (row b t cs)) (hl : cs'.length = cs.length)
    (hfr : ∀ i, i < cs.length → ¬ (fr.1 ≤ i ∧ i < fr.2)) (hg : w.heap[b]? = some (.cells cs.toArray t fr)) (hb : w'.heap[b]? = some (.cells cs'.toArray t fr)) (hk : ∀ k, k ≠ b → w'.heap[k]? = w.heap[k]?) : Sat w' (As.set i (row b t cs')) := by
  obtain ⟨g, ⟨fr', _, hg'⟩, hs⟩ := h.take i hi
  have hset : (As.set i (ex g))[i]? = some (pts b (.cells cs.toArray t fr')) := by
    rw [List.getElem?_set_self (lt_of_get hi)]
    have : ex g = pts b (.cells cs.toArray t fr') := by subst hg'; rfl
    rw [this]
  have hb' := hs.get i hset
  rw [hg] at hb'
  simp only [Option.some.injEq, Obj.cells.injEq, true_and] at hb'
  subst hb'
  have := (hs.setHeap i hset (o' := .cells cs'.toArray t fr) hb hk).imp i (A := pts b (.cells cs'.toArray t fr)) (B := row b t cs') (by rw [List.getElem?_set_self (by simpa using lt_of_get hi)]) (fun g' e => ⟨fr, by rw [hl]; exact hfr, e⟩)
  simpa [List.set_set] using this
theorem Sat.rowPush {w w' : World} {As : List HP} (h : Sat w As) {t : TypeId} {cs : List Value} {fr : Nat × Nat} (hfr : ∀ i, i < cs.length → ¬ (fr.1 ≤ i ∧ i < fr.2)) (hb : w'.heap[w.heap.size]? = some (.cells cs.toArray t fr)) (hk : ∀ k, k < w.heap.size → w'.heap[k]? = w.heap[k]?) :
    Sat w' (As ++ [row w.heap.size t cs]) := by
  have := (h.push hb hk).imp As.length (A := pts w.heap.size (.cells cs.toArray t fr)) (B := row w.heap.size t cs) (by simp) (fun g' e => ⟨fr, hfr, e⟩)
  simpa using this

theorem pushOld (w : World) (o : Obj) (k : Nat) (hk : k < w.heap.size) : ({ w with heap := w.heap.push o } : World).heap[k]? = w.heap[k]? := by
  show (w.heap.push o)[k]? = _
  rw [Array.getElem?_push, if_neg (by omega)]
theorem pushNew (w : World) (o : Obj) : ({ w with heap := w.heap.push o } : World).heap[w.heap.size]? = some o := by
  show (w.heap.push o)[w.heap.size]? = _
  simp

/-! ### Lists told step by step (so that what comes out is written out) -/
inductive Rep {α : Type _} : List α → α → α → List α → Prop
  | h {a a' : α} {r : List α} : Rep (a :: r) a a' (a' :: r)
  | t {x a a' : α} {r r' : List α} : Rep r a a' r' → Rep (x :: r) a a' (x :: r')
theorem Rep.spec {α : Type _} {l l' : List α} {a a' : α} (h : Rep l a a' l') : ∃ i, l[i]? = some a ∧ l.set i a' = l' := by
  induction h with
  | h => exact ⟨0, rfl, rfl⟩
  | t _ ih => obtain ⟨i, h1, h2⟩ := ih; exact ⟨i + 1, by simpa using h1, by simp [h2]⟩
inductive App {α : Type _} : List α → α → List α → Prop
  | n {x : α} : App [] x [x]
  | c {a x : α} {r r' : List α} : App r x r' → App (a :: r) x (a :: r')
theorem App.spec {α : Type _} {l l' : List α} {x : α} (h : App l x l') : l ++ [x] = l' := by
  induction h with
  | n => rfl
  | c _ ih => simp [ih]
inductive Wr {α : Type _} : List α → Nat → List α → List α → Prop
  | n {r : List α} : Wr r 0 [] r
  | h {x v : α} {r vs r' : List α} : Wr r 0 vs r' → Wr (x :: r) 0 (v :: vs) (v :: r')
  | t {x : α} {n : Nat} {r vs r' : List α} : Wr r n vs r' → Wr (x :: r) (n + 1) vs (x :: r')
inductive Tk {α : Type _} : List α → Nat → Nat → List α → Prop
  | n {r : List α} : Tk r 0 0 []
  | h {x : α} {n : Nat} {r vs : List α} : Tk r 0 n vs → Tk (x :: r) 0 (n + 1) (x :: vs)
  | t {x : α} {o n : Nat} {r vs : List α} : Tk r o n vs → Tk (x :: r) (o + 1) n vs
theorem Tk.spec {α : Type _} {l vs : List α} {o n : Nat} (h : Tk l o n vs) : vs.length = n ∧ (l.drop o).take n = vs := by
  induction h with
  | n => simp
  | h _ ih => obtain ⟨h1, h2⟩ := ih; simp at h2; simp [h1, h2]
  | t _ ih => simpa using ih
inductive CellsOf : Value → List Value → Prop
  | agg {l : List Value} : CellsOf (.agg l.toArray) l
  | one {v : Value} : v.oneCell' = true → CellsOf v [v]
theorem CellsOf.spec {v : Value} {l : List Value} (h : CellsOf v l) : v.cells.toList = l := by
  cases h with
  | agg => simp [Value.cells]
  | one h => cases v <;> first | rfl | cases h

/-! ### Facts on types (closed: by kernel_rfl) -/
def tyAgg (P : Program) (t : TypeId) : Option (Bool × Nat) := match P.underlying t, P.info? t with
  | some d, some i => some ((match d with | .struct _ | .array _ _ => true | _ => false), i.size)
  | _, _ => none
def fieldOff (P : Program) (t : TypeId) (i : Nat) : Option Nat := match P.underlying t with
  | some (.struct fs) => match fs[i]? with
    | some f => match P.info? f.type with
      | some j => if j.size = 0 then none else some f.offset
      | none => none
    | none => none
  | _ => none
/-- a slice's type: its element's type, size and bytes -/
def sliceOf (P : Program) (t : TypeId) : Option (TypeId × Nat × Nat) := match P.underlying t with
  | some (.slice e) => match P.info? e with
    | some i => some (e, i.size, i.bytes)
    | none => none
  | _ => none
def zeroOf (P : Program) (t : TypeId) : Option Value := match P.info? t with
  | some i => i.zero
  | none => none
def zeroCells' (P : Program) (t : TypeId) : Option (List Value) := match P.info? t with
  | some i => i.zero.map (·.cells.toList)
  | none => none
/-- a struct's fields: place and number of cells of each -/
def placesL (P : Program) : List Field → Option (List (Nat × Nat))
  | [] => some []
  | f :: r => match P.info? f.type, placesL P r with
    | some j, some l => some ((f.offset, j.size) :: l)
    | _, _ => none
def placesOf (P : Program) (t : TypeId) : Option (List (Nat × Nat)) := match P.underlying t with
  | some (.struct fs) => placesL P fs.toList
  | _ => none
def callable (P : Program) (f : FuncId) : Bool := match P.funcs[f]? with
  | some fn => fn.name != "runtime.NumGoroutine" && fn.body.isSome
  | none => false

theorem tyAgg_spec {P : Program} {t : TypeId} {g : Bool} {n : Nat} (h : tyAgg P t = some (g, n)) (w : World) : (isAgg t).run P w = .ok g w ∧ (sizeOf t).run P w = .ok n w := by
  unfold tyAgg at h
  split at h
  · rename_i d i hd hi
    simp only [Option.some.injEq, Prod.mk.injEq] at h
    obtain ⟨hg, rfl⟩ := h
    refine ⟨?_, ?_⟩
    · unfold isAgg
      simp only [Sem.run_bind, run_underlying hd, Result.andThen_ok]
      rw [← hg]; cases d <;> simp
    · simp [sizeOf, typeInfo, hi]
  · cases h
theorem zeroOf_spec {P : Program} {t : TypeId} {z : Value} (h : zeroOf P t = some z) (w : World) : (zeroValue t).run P w = .ok z w := by
  unfold zeroOf at h
  split at h
  · rename_i i hi; simp [zeroValue, typeInfo, hi, h]
  · cases h
theorem sliceOf_spec {P : Program} {t : TypeId} {e : TypeId} {n m : Nat} (h : sliceOf P t = some (e, n, m)) : P.underlying t = some (.slice e) ∧ ∃ i, P.info? e = some i ∧ i.size = n ∧ i.bytes = m := by
  unfold sliceOf at h
  split at h
  · rename_i e' hd
    split at h
    · rename_i i hi
      simp only [Option.some.injEq, Prod.mk.injEq] at h
      obtain ⟨rfl, rfl, rfl⟩ := h
      exact ⟨hd, i, hi, rfl, rfl⟩
    · cases h
  · cases h

theorem evalsA {N : Nat} {ds : List Deferred} {env : Env} {a : Act} (ha : EnvOk N ds env a) {xs : Array Operand} {vs : List Value} (h : evs env xs.toList = some vs) : xs.map a.eval = vs.toArray := by
  have := ha.evals h
  rw [← this, ← Array.toList_map]

section
variable {C : Cx} {ds : List Deferred} {env : Env} {As : List HP} {d : Option Tmp} {ty : TypeId} {pos : String} {af : Array Edge} {gd : Option (Nat × Bool)}

theorem OpV.eq {o : Oper} {v v' : Value} (h : OpV C ds env As o v) (e : v = v') : OpV C ds env As o v' := e ▸ h
/-! ### Copies, picks, tuples -/
theorem ov_move {x : Operand} {v : Value} (hx : evo env x = some v) : OpV C ds env As ⟨d, .move x, ty, pos, af, gd⟩ v := fun a w ha _ => by
  simp [execOp, ha.eval hx]
theorem ov_assign {x : Operand} {v : Value} (hx : evo env x = some v) : OpV C ds env As ⟨d, .assign x, ty, pos, af, gd⟩ v := fun a w ha _ => by
  simp [execOp, ha.eval hx]
theorem ov_pick {c x y : Operand} {b : Bool} {u v : Value} (hc : evo env c = some (.bool b)) (hx : evo env x = some u) (hy : evo env y = some v) : OpV C ds env As ⟨d, .pick c x y, ty, pos, af, gd⟩ (if b then u else v) := fun a w ha _ => by
  simp [execOp, ha.eval hc, ha.eval hx, ha.eval hy, asBool]
theorem ov_pickT {c x y : Operand} {u : Value} (hc : evo env c = some (.bool true)) (hx : evo env x = some u) : OpV C ds env As ⟨d, .pick c x y, ty, pos, af, gd⟩ u := fun a w ha _ => by
  simp [execOp, ha.eval hc, ha.eval hx, asBool]
theorem ov_pickF {c x y : Operand} {v : Value} (hc : evo env c = some (.bool false)) (hy : evo env y = some v) : OpV C ds env As ⟨d, .pick c x y, ty, pos, af, gd⟩ v := fun a w ha _ => by
  simp [execOp, ha.eval hc, ha.eval hy, asBool]
theorem ov_extract {x : Operand} {vs : List Value} {i : Nat} {v : Value} (hx : evo env x = some (.tuple vs.toArray)) (hi : vs[i]? = some v) : OpV C ds env As ⟨d, .extract x i, ty, pos, af, gd⟩ v := fun a w ha _ => by
  simp [execOp, ha.eval hx, Instr.extract, hi]
theorem ov_nilP {x : Operand} {b : Addr} (hx : evo env x = some (.pointer (some b))) : OpV C ds env As ⟨d, .nilCheck x, ty, pos, af, gd⟩ (.pointer (some b)) := fun a w ha _ => by
  simp [execOp, ha.eval hx]
theorem ov_nilF {x : Operand} {f : FuncId} {p q : Array Value} (hx : evo env x = some (.func (.func f) p q)) : OpV C ds env As ⟨d, .nilCheck x, ty, pos, af, gd⟩ (.func (.func f) p q) := fun a w ha _ => by
  simp [execOp, ha.eval hx]
theorem ov_mkFunc {fn : Go.Fn} {p q : Array Operand} {ps qs : List Value} (hp : evs env p.toList = some ps) (hq : evs env q.toList = some qs) : OpV C ds env As ⟨d, .makeFunc fn p q, ty, pos, af, gd⟩ (.func fn ps.toArray qs.toArray) := fun a w ha _ => by
  have h1 := evalsA ha hp
  have h2 := evalsA ha hq
  simp [execOp, Instr.makeFunc, h1, h2]

/-! ### Integers -/
theorem binOp_run {op : BinOp} {t t' : TypeId} {x y : Operand} {k : IntKind} {m n : Int} {v : Value} {a : Act} {w : World} (ha : EnvOk C.N ds env a) (hx : evo env x = some (.int k m)) (hy : evo env y = some (.int k n))
    (h : (binOp op t (.int k m) (.int k n)).run C.P w = .ok v w) : (execOp a.eval ⟨d, .binOp op t x y t', ty, pos, af, gd⟩).run C.P w = .ok (.value v) w := by
  have hgd : (eqGuard op t x y (.int k m) (.int k n)).run C.P w = .ok () w := by
    unfold eqGuard; split <;> simp
  simp [execOp, ha.eval hx, ha.eval hy, hgd, h]
variable {t t' : TypeId} {x y : Operand} {m n : Int} {k : IntKind}
theorem wrap_i64 {m : Int} (h : -9223372036854775808 ≤ m ∧ m ≤ 9223372036854775807) : IntKind.i64.wrap m = m := by
  unfold IntKind.wrap
  simp only [IntKind.bits, IntKind.signed, Bool.true_and]
  split <;> rename_i hc <;> simp at hc <;> omega
theorem ov_addW (hx : evo env x = some (.int k m)) (hy : evo env y = some (.int k n)) : OpV C ds env As ⟨d, .binOp .add t x y t', ty, pos, af, gd⟩ (.int k (k.wrap (m + n))) := fun a w ha _ => binOp_run ha hx hy (by simp [binOp, Op.intArith])
theorem ov_subW (hx : evo env x = some (.int k m)) (hy : evo env y = some (.int k n)) : OpV C ds env As ⟨d, .binOp .sub t x y t', ty, pos, af, gd⟩ (.int k (k.wrap (m - n))) := fun a w ha _ => binOp_run ha hx hy (by simp [binOp, Op.intArith])
theorem ov_mulW (hx : evo env x = some (.int k m)) (hy : evo env y = some (.int k n)) : OpV C ds env As ⟨d, .binOp .mul t x y t', ty, pos, af, gd⟩ (.int k (k.wrap (m * n))) := fun a w ha _ => binOp_run ha hx hy (by simp [binOp, Op.intArith])
theorem ov_add (hx : evo env x = some (.int .i64 m)) (hy : evo env y = some (.int .i64 n)) (hb : -9223372036854775808 ≤ m + n ∧ m + n ≤ 9223372036854775807) : OpV C ds env As ⟨d, .binOp .add t x y t', ty, pos, af, gd⟩ (.int .i64 (m + n)) := by
  have := ov_addW (C := C) (ds := ds) (As := As) (d := d) (t := t) (t' := t') (ty := ty) (pos := pos) (af := af) (gd := gd) hx hy; rwa [wrap_i64 hb] at this
theorem ov_sub (hx : evo env x = some (.int .i64 m)) (hy : evo env y = some (.int .i64 n)) (hb : -9223372036854775808 ≤ m - n ∧ m - n ≤ 9223372036854775807) : OpV C ds env As ⟨d, .binOp .sub t x y t', ty, pos, af, gd⟩ (.int .i64 (m - n)) := by
  have := ov_subW (C := C) (ds := ds) (As := As) (d := d) (t := t) (t' := t') (ty := ty) (pos := pos) (af := af) (gd := gd) hx hy; rwa [wrap_i64 hb] at this
theorem ov_mul (hx : evo env x = some (.int .i64 m)) (hy : evo env y = some (.int .i64 n)) (hb : -9223372036854775808 ≤ m * n ∧ m * n ≤ 9223372036854775807) : OpV C ds env As ⟨d, .binOp .mul t x y t', ty, pos, af, gd⟩ (.int .i64 (m * n)) := by
  have := ov_mulW (C := C) (ds := ds) (As := As) (d := d) (t := t) (t' := t') (ty := ty) (pos := pos) (af := af) (gd := gd) hx hy; rwa [wrap_i64 hb] at this
theorem ov_quoW (hx : evo env x = some (.int k m)) (hy : evo env y = some (.int k n)) (hn : n ≠ 0) : OpV C ds env As ⟨d, .binOp .quo t x y t', ty, pos, af, gd⟩ (.int k (k.wrap (m.tdiv n))) := fun a w ha _ => binOp_run ha hx hy (by simp [binOp, Op.intDiv, hn])
theorem ov_remW (hx : evo env x = some (.int k m)) (hy : evo env y = some (.int k n)) (hn : n ≠ 0) : OpV C ds env As ⟨d, .binOp .rem t x y t', ty, pos, af, gd⟩ (.int k (m.tmod n)) := fun a w ha _ => binOp_run ha hx hy (by simp [binOp, Op.intDiv, hn])
theorem ov_quo (hx : evo env x = some (.int .i64 m)) (hy : evo env y = some (.int .i64 n)) (hm : 0 ≤ m ∧ m ≤ 9223372036854775807) (hn : 1 ≤ n) : OpV C ds env As ⟨d, .binOp .quo t x y t', ty, pos, af, gd⟩ (.int .i64 (m / n)) := by
  have h0 := ov_quoW (C := C) (ds := ds) (As := As) (d := d) (t := t) (t' := t') (ty := ty) (pos := pos) (af := af) (gd := gd) hx hy (by omega)
  rw [Int.tdiv_eq_ediv_of_nonneg hm.1] at h0
  have h1 : 0 ≤ m / n := Int.ediv_nonneg hm.1 (by omega)
  have h2 : m / n ≤ m := Int.ediv_le_self n hm.1
  rwa [wrap_i64 (by omega)] at h0
theorem ov_rem (hx : evo env x = some (.int k m)) (hy : evo env y = some (.int k n)) (hm : 0 ≤ m) (hn : 1 ≤ n) : OpV C ds env As ⟨d, .binOp .rem t x y t', ty, pos, af, gd⟩ (.int k (m % n)) := by
  have h0 := ov_remW (C := C) (ds := ds) (As := As) (d := d) (t := t) (t' := t') (ty := ty) (pos := pos) (af := af) (gd := gd) hx hy (by omega)
  rwa [Int.tmod_eq_emod_of_nonneg hm] at h0
/-- bits of two numbers, as the model reckons them -/
def bits2 (op : BinOp) (k : IntKind) (m n : Int) : Int :=
  let a := BitVec.ofInt k.bits m
  let b := BitVec.ofInt k.bits n
  k.wrap ((match op with | .and => a &&& b | .or => a ||| b | .xor => a ^^^ b | _ => a &&& ~~~b).toNat)
theorem ov_and (hx : evo env x = some (.int k m)) (hy : evo env y = some (.int k n)) : OpV C ds env As ⟨d, .binOp .and t x y t', ty, pos, af, gd⟩ (.int k (bits2 .and k m n)) := fun a w ha _ => binOp_run ha hx hy (by simp [binOp, Op.intBits, bits2])
theorem ov_or (hx : evo env x = some (.int k m)) (hy : evo env y = some (.int k n)) : OpV C ds env As ⟨d, .binOp .or t x y t', ty, pos, af, gd⟩ (.int k (bits2 .or k m n)) := fun a w ha _ => binOp_run ha hx hy (by simp [binOp, Op.intBits, bits2])
theorem ov_xor (hx : evo env x = some (.int k m)) (hy : evo env y = some (.int k n)) : OpV C ds env As ⟨d, .binOp .xor t x y t', ty, pos, af, gd⟩ (.int k (bits2 .xor k m n)) := fun a w ha _ => binOp_run ha hx hy (by simp [binOp, Op.intBits, bits2])
theorem ov_andNot (hx : evo env x = some (.int k m)) (hy : evo env y = some (.int k n)) : OpV C ds env As ⟨d, .binOp .andNot t x y t', ty, pos, af, gd⟩ (.int k (bits2 .andNot k m n)) := fun a w ha _ => binOp_run ha hx hy (by simp [binOp, Op.intBits, bits2])
theorem ov_bits {op : BinOp} {v : Int} (ho : op = .and ∨ op = .or ∨ op = .xor ∨ op = .andNot) (hx : evo env x = some (.int k m)) (hy : evo env y = some (.int k n)) (hv : bits2 op k m n = v) : OpV C ds env As ⟨d, .binOp op t x y t', ty, pos, af, gd⟩ (.int k v) := by
  subst hv; rcases ho with rfl | rfl | rfl | rfl
  · exact ov_and hx hy
  · exact ov_or hx hy
  · exact ov_xor hx hy
  · exact ov_andNot hx hy
theorem ov_shl {k' : IntKind} (hx : evo env x = some (.int k m)) (hy : evo env y = some (.int k' n)) (hn : 0 ≤ n) : OpV C ds env As ⟨d, .binOp .shl t x y t', ty, pos, af, gd⟩ (.int k (k.wrap (m * 2 ^ (min n.toNat k.bits)))) := fun a w ha _ => by
  have : ¬ n < 0 := by omega
  simp [execOp, ha.eval hx, ha.eval hy, eqGuard, binOp, Op.shift, this]
theorem ov_shr {k' : IntKind} (hx : evo env x = some (.int k m)) (hy : evo env y = some (.int k' n)) (hn : 0 ≤ n) : OpV C ds env As ⟨d, .binOp .shr t x y t', ty, pos, af, gd⟩ (.int k (m.fdiv (2 ^ (min n.toNat k.bits)))) := fun a w ha _ => by
  have : ¬ n < 0 := by omega
  simp [execOp, ha.eval hx, ha.eval hy, eqGuard, binOp, Op.shift, this]
theorem ov_eql (hx : evo env x = some (.int k m)) (hy : evo env y = some (.int k n)) : OpV C ds env As ⟨d, .binOp .eql t x y t', ty, pos, af, gd⟩ (.bool (decide (m = n))) := fun a w ha _ => binOp_run ha hx hy (by simp [binOp, Op.intCmp]; rfl)
theorem ov_neq (hx : evo env x = some (.int k m)) (hy : evo env y = some (.int k n)) : OpV C ds env As ⟨d, .binOp .neq t x y t', ty, pos, af, gd⟩ (.bool (decide (m ≠ n))) := fun a w ha _ => binOp_run ha hx hy (by
  simp only [binOp, Op.intCmp, ne_eq, not_true_eq_false, if_false]
  have : (m != n) = decide (m ≠ n) := by by_cases e : m = n <;> simp [e]
  rw [this]; rfl)
theorem ov_lss (hx : evo env x = some (.int k m)) (hy : evo env y = some (.int k n)) : OpV C ds env As ⟨d, .binOp .lss t x y t', ty, pos, af, gd⟩ (.bool (decide (m < n))) := fun a w ha _ => binOp_run ha hx hy (by simp [binOp, Op.intCmp])
theorem ov_leq (hx : evo env x = some (.int k m)) (hy : evo env y = some (.int k n)) : OpV C ds env As ⟨d, .binOp .leq t x y t', ty, pos, af, gd⟩ (.bool (decide (m ≤ n))) := fun a w ha _ => binOp_run ha hx hy (by simp [binOp, Op.intCmp])
theorem ov_gtr (hx : evo env x = some (.int k m)) (hy : evo env y = some (.int k n)) : OpV C ds env As ⟨d, .binOp .gtr t x y t', ty, pos, af, gd⟩ (.bool (decide (n < m))) := fun a w ha _ => binOp_run ha hx hy (by simp [binOp, Op.intCmp])
theorem ov_geq (hx : evo env x = some (.int k m)) (hy : evo env y = some (.int k n)) : OpV C ds env As ⟨d, .binOp .geq t x y t', ty, pos, af, gd⟩ (.bool (decide (n ≤ m))) := fun a w ha _ => binOp_run ha hx hy (by simp [binOp, Op.intCmp])
theorem ov_not {b : Bool} (hx : evo env x = some (.bool b)) : OpV C ds env As ⟨d, .unOp .not t x, ty, pos, af, gd⟩ (.bool (!b)) := fun a w ha _ => by
  simp [execOp, ha.eval hx, Op.unary]
theorem ov_negW (hx : evo env x = some (.int k m)) : OpV C ds env As ⟨d, .unOp .neg t x, ty, pos, af, gd⟩ (.int k (k.wrap (0 - m))) := fun a w ha _ => by
  simp [execOp, ha.eval hx, Op.unary, Op.intArith]
theorem ov_toInt {k' : IntKind} (hu : C.P.underlying t' = some (.int k')) (ht : (C.P.underlying t).isSome = true) (hx : evo env x = some (.int k m)) : OpV C ds env As ⟨d, .convert t t' x, ty, pos, af, gd⟩ (.int k' (k'.wrap m)) := fun a w ha _ => by
  obtain ⟨u, hu'⟩ := Option.isSome_iff_exists.1 ht
  simp [execOp, ha.eval hx, convert, run_underlying hu, run_underlying hu', Conv.intToInt]

/-! ### Strings -/
theorem S_size (l : List UInt8) : (⟨l.toArray⟩ : ByteArray).size = l.length := rfl
theorem ov_strAdd {a b : List UInt8} (hx : evo env x = some (S a)) (hy : evo env y = some (S b)) (hb : a.length + b.length ≤ 9223372036854775807) : OpV C ds env As ⟨d, .binOp .add t x y t', ty, pos, af, gd⟩ (S (a ++ b)) := fun c w ha _ => by
  have h1 : ¬ ((((⟨a.toArray⟩ : ByteArray).size + (⟨b.toArray⟩ : ByteArray).size : Nat) : Int) > IntKind.i64.max) := by
    rw [S_size, S_size]; show ¬ (_ > (9223372036854775807 : Int)); omega
  have e : (⟨a.toArray⟩ ++ ⟨b.toArray⟩ : ByteArray) = ⟨(a ++ b).toArray⟩ := by
    apply ByteArray.ext; simp
  simp only [S] at hx hy
  simp only [execOp, ha.eval hx, ha.eval hy, eqGuard, binOp, Op.stringOp, if_neg h1, e, S]
  simp
theorem ov_strEql {a b : List UInt8} (hx : evo env x = some (S a)) (hy : evo env y = some (S b)) : OpV C ds env As ⟨d, .binOp .eql t x y t', ty, pos, af, gd⟩ (.bool (decide (a = b))) := fun c w ha _ => by
  simp only [S] at hx hy
  have e : (a == b) = decide (a = b) := by by_cases h : a = b <;> simp [h]
  simp [execOp, ha.eval hx, ha.eval hy, eqGuard, binOp, Op.stringOp, e]
theorem ov_strNeq {a b : List UInt8} (hx : evo env x = some (S a)) (hy : evo env y = some (S b)) : OpV C ds env As ⟨d, .binOp .neq t x y t', ty, pos, af, gd⟩ (.bool (decide (a ≠ b))) := fun c w ha _ => by
  simp only [S] at hx hy
  have e : (!(a == b)) = decide (a ≠ b) := by by_cases h : a = b <;> simp [h]
  simp only [execOp, ha.eval hx, ha.eval hy, eqGuard, binOp, Op.stringOp]
  simp [← e]
theorem ov_strIdx {a : List UInt8} {i : Nat} {c : UInt8} (hu : C.P.underlying t = some .string) (hx : evo env x = some (S a)) (hy : evo env y = some (.int k m)) (hm : m = (i : Int)) (hc : a[i]? = some c) : OpV C ds env As ⟨d, .index t x y, ty, pos, af, gd⟩ (.int .u8 c.toNat) := fun e w ha _ => by
  simp only [S] at hx
  subst hm
  have hl : i < a.length := lt_of_get hc
  have : (⟨a.toArray⟩ : ByteArray)[i]? = some c := by
    have h2 : i < (⟨a.toArray⟩ : ByteArray).size := by rw [S_size]; exact hl
    rw [getElem?_pos _ i h2]
    congr 1
    have := (List.getElem?_eq_some_iff.1 hc).2
    simpa [ByteArray.getElem_eq_getElem_data] using this
  simp [execOp, ha.eval hx, ha.eval hy, Instr.index, asIntOf, run_underlying hu, this]
def bndV (env : Env) (x : Option Operand) (i dflt : Nat) : Prop := match x with
  | none => i = dflt
  | some y => ∃ (k : IntKind) (m : Int), evo env y = some (.int k m) ∧ m = (i : Int)
theorem run_bnd {P : Program} (w : World) {k : IntKind} {m : Int} {i y : Nat} (code : BoundsCode) (hm : m = (i : Int)) (hi : i ≤ y) : (Instr.sliceBound (.int k m) y code).run P w = .ok i w := by
  subst hm
  have : (0 : Int) ≤ (i : Int) ∧ (i : Int) ≤ (y : Int) := by omega
  simp [Instr.sliceBound, asIntOf, hi]
theorem run_bnds {P : Program} {N : Nat} {a : Act} {w : World} {isS : Bool} {len cap i j : Nat} {lo hi : Option Operand} (ha : EnvOk N ds env a) (hl : bndV env lo i 0) (hh : bndV env hi j len) (hij : i ≤ j) (hj : j ≤ cap) :
    (Instr.sliceBounds isS len cap (lo.map a.eval) (hi.map a.eval) none).run P w = .ok (i, j, cap) w := by
  unfold Instr.sliceBounds
  cases hi with
  | none =>
    simp only [bndV] at hh; subst hh
    cases lo with
    | none => simp only [bndV] at hl; subst hl; simp
    | some x =>
      obtain ⟨k, m, h1, h2⟩ := hl
      simp [ha.eval h1, run_bnd (P := P) w _ h2 hij]
  | some y =>
    obtain ⟨k, m, h1, h2⟩ := hh
    cases lo with
    | none => simp only [bndV] at hl; subst hl; simp [ha.eval h1, run_bnd (P := P) w _ h2 hj]
    | some x =>
      obtain ⟨k', m', h1', h2'⟩ := hl
      simp [ha.eval h1, ha.eval h1', run_bnd (P := P) w _ h2 hj, run_bnd (P := P) w _ h2' hij]
theorem ov_strSlice {a : List UInt8} {lo hi : Option Operand} {i j : Nat} (hu : C.P.underlying t = some .string) (hx : evo env x = some (S a)) (hl : bndV env lo i 0) (hh : bndV env hi j a.length)
    (hij : i ≤ j) (hj : j ≤ a.length) : OpV C ds env As ⟨d, .slice t x lo hi none, ty, pos, af, gd⟩ (S ((a.drop i).take (j - i))) := fun c w ha _ => by
  simp only [S] at hx
  have h := run_bnds (P := C.P) (w := w) (isS := false) (len := a.length) (cap := a.length) ha hl hh hij hj
  have e : (⟨a.toArray⟩ : ByteArray).extract i j = ⟨((a.drop i).take (j - i)).toArray⟩ := Lib.extract_eq _ i j
  simp [execOp, ha.eval hx, Instr.sliceAt, Instr.slice, run_underlying hu, S_size, h, e, S]
/-- a cut of a slice: nil or within one block -/
def cutS (ad : Option Addr) (i sz : Nat) (atEnd : Bool) : Option Addr := if atEnd then ad else ad.map fun a => a.add (i * sz)
theorem ov_slSlice {e : TypeId} {sz bs : Nat} {ad : Option Addr} {l c : Nat} {lo hi : Option Operand} {i j : Nat} (hu : sliceOf C.P t = some (e, sz, bs)) (hx : evo env x = some (.slice ad l c)) (hl : bndV env lo i 0) (hh : bndV env hi j l)
    (hij : i ≤ j) (hj : j ≤ c) : OpV C ds env As ⟨d, .slice t x lo hi none, ty, pos, af, gd⟩ (.slice (if c = i then ad else ad.map fun a => a.add (i * sz)) (j - i) (c - i)) := fun f w ha _ => by
  have h := run_bnds (P := C.P) (w := w) (isS := true) (len := l) (cap := c) ha hl hh hij hj
  obtain ⟨h1, q, h2, h3, h4⟩ := sliceOf_spec hu
  simp [execOp, ha.eval hx, Instr.sliceAt, Instr.slice, run_underlying h1, h, sizeOf, typeInfo, h2, h3]
theorem run_len {b : Builtin} {args : Array Operand} {ats : Array TypeId} {a : Act} {w : World} (hb : b = .len ∨ b = .cap) {vs : List Value} (ha : EnvOk C.N ds env a) (hv : evs env args.toList = some vs) :
    (execOp a.eval ⟨d, .call ⟨.builtin b, args, ats⟩, ty, pos, af, gd⟩).run C.P w = ((if b matches .len then Builtin.len_ ats ty vs.toArray else Builtin.cap_ ats ty vs.toArray).run C.P w).andThen fun v w => .ok (.value v) w := by
  have h1 := evalsA ha hv
  rcases hb with rfl | rfl <;> simp [execOp, resolve, invoke, builtin, h1]
theorem ov_lenS {a : List UInt8} (hu : C.P.underlying t = some .string) (hx : evo env x = some (S a)) : OpV C ds env As ⟨d, .call ⟨.builtin .len, #[x], #[t]⟩, ty, pos, af, gd⟩ (.int .i64 (a.length : Int)) := fun c w ha _ => by
  simp only [S] at hx
  rw [run_len (.inl rfl) ha (vs := [.string ⟨a.toArray⟩]) (by simp [evs, hx])]
  simp [Builtin.len_, run_underlying hu, goInt, S_size]
theorem ov_lenL {e : TypeId} {ad : Option Addr} {l c : Nat} {z : Nat × Nat} (hu : sliceOf C.P t = some (e, z)) (hx : evo env x = some (.slice ad l c)) : OpV C ds env As ⟨d, .call ⟨.builtin .len, #[x], #[t]⟩, ty, pos, af, gd⟩ (.int .i64 (l : Int)) := fun f w ha _ => by
  rw [run_len (.inl rfl) ha (vs := [.slice ad l c]) (by simp [evs, hx])]
  simp [Builtin.len_, run_underlying (sliceOf_spec (m := z.2) (n := z.1) hu).1, goInt]

/-! ### Memory -/
theorem ov_load {b off : Nat} {v : Value} (ha : tyAgg C.P t = some (false, 1)) (hx : evo env x = some (.pointer (some ⟨b, off, none⟩))) (hc : ∀ w, Sat w As → w.cell? ⟨b, off, none⟩ = some v) : OpV C ds env As ⟨d, .load t x, ty, pos, af, gd⟩ v := fun c w hc' hs => by
  simp [execOp, hc'.eval hx, Instr.loadAt, Instr.sureAddr, loadVar, (tyAgg_spec ha w).1, hc w hs]
theorem ov_loadR {b off : Nat} {v : Value} (i : Nat) {tb : TypeId} {cs : List Value} (ha : tyAgg C.P t = some (false, 1)) (hx : evo env x = some (.pointer (some ⟨b, off, none⟩))) (hi : As[i]? = some (row b tb cs)) (hv : cs[off]? = some v) : OpV C ds env As ⟨d, .load t x, ty, pos, af, gd⟩ v :=
  ov_load ha hx fun _ hs => (hs.cell i hi off).trans hv
theorem addr_add (b off n : Nat) : (⟨b, off, none⟩ : Addr).add n = ⟨b, off + n, none⟩ := by unfold Addr.add; split <;> simp_all
theorem ov_loadA {b off n : Nat} {vs : List Value} (ha : tyAgg C.P t = some (true, n)) (hx : evo env x = some (.pointer (some ⟨b, off, none⟩))) (hn : vs.length = n) (hc : ∀ w, Sat w As → ∀ (j : Nat) (v : Value), vs[j]? = some v → w.cell? ⟨b, off + j, none⟩ = some v) : OpV C ds env As ⟨d, .load t x, ty, pos, af, gd⟩ (.agg vs.toArray) := fun c w hc' hs => by
  have h1 := run_loadCells_list (P := C.P) (w := w) ⟨b, off, none⟩ vs (fun j v hj => by rw [addr_add]; exact hc w hs j v hj)
  simp [execOp, hc'.eval hx, Instr.loadAt, Instr.sureAddr, loadVar, (tyAgg_spec ha w).1, (tyAgg_spec ha w).2, ← hn, h1]
theorem ov_loadAR {b off n : Nat} {vs : List Value} (i : Nat) {tb : TypeId} {cs : List Value} (ha : tyAgg C.P t = some (true, n)) (hx : evo env x = some (.pointer (some ⟨b, off, none⟩))) (hi : As[i]? = some (row b tb cs)) (hk : Tk cs off n vs) : OpV C ds env As ⟨d, .load t x, ty, pos, af, gd⟩ (.agg vs.toArray) :=
  ov_loadA ha hx hk.spec.1 fun _ hs j v hj => by
    rw [hs.cell i hi]
    rw [← hk.spec.2, List.getElem?_take] at hj
    split at hj
    · simpa using hj
    · cases hj

def wr (cs : List Value) (off : Nat) : List Value → List Value
  | [] => cs
  | v :: r => wr (cs.set off v) (off + 1) r
theorem wr_length : ∀ (vs cs : List Value) (off : Nat), (wr cs off vs).length = cs.length := by
  intro vs; induction vs with
  | nil => intro cs off; rfl
  | cons v r ih => intro cs off; rw [wr, ih]; simp
theorem Wr.spec {l l' vs : List Value} {o : Nat} (h : Wr l o vs l') : wr l o vs = l' ∧ o + vs.length ≤ l.length := by
  have key : ∀ (vs l : List Value) (x : Value) (o : Nat), wr (x :: l) (o + 1) vs = x :: wr l o vs := by
    intro vs; induction vs with
    | nil => intro l x o; rfl
    | cons v r ih => intro l x o; simp only [wr, List.set_cons_succ, ih]
  induction h with
  | n => exact ⟨rfl, by simp⟩
  | h _ ih => exact ⟨by simp only [wr, List.set_cons_zero, Nat.zero_add]; rw [key, ih.1], by have := ih.2; simp; omega⟩
  | t _ ih => exact ⟨by rw [key, ih.1], by have := ih.2; simp; omega⟩
theorem setCell_heap {w : World} {b off : Nat} {cs : List Value} {t : TypeId} {fr : Nat × Nat} (h : w.heap[b]? = some (.cells cs.toArray t fr)) (v : Value) : (w.setCell ⟨b, off, none⟩ v).heap[b]? = some (.cells (cs.set off v).toArray t fr) := by
  simp [World.setCell, Array.getElem?_modify, h]
theorem setCell_other {w : World} {b off : Nat} (v : Value) (k : Nat) (hk : k ≠ b) : (w.setCell ⟨b, off, none⟩ v).heap[k]? = w.heap[k]? := by
  simp only [World.setCell, Array.getElem?_modify]
  rw [if_neg (Ne.symm hk)]
theorem storeCells_row {P : Program} {b : Nat} {t : TypeId} {fr : Nat × Nat} : ∀ (vs : List Value) (i off : Nat) (cs : List Value) (w : World), w.heap[b]? = some (.cells cs.toArray t fr) → (∀ i, i < cs.length → ¬ (fr.1 ≤ i ∧ i < fr.2)) →
    off + i + vs.length ≤ cs.length → (∀ v ∈ vs, v.oneCell' = true) → ∃ w', (storeCells ⟨b, off, none⟩ vs i).run P w = .ok () w' ∧ w'.heap[b]? = some (.cells (wr cs (off + i) vs).toArray t fr) ∧ (∀ k, k ≠ b → w'.heap[k]? = w.heap[k]?) ∧ Same w w' := by
  intro vs; induction vs with
  | nil => intro i off cs w h _ _ _; exact ⟨w, by simp [storeCells], h, fun _ _ => rfl, Same.refl w⟩
  | cons v r ih =>
    intro i off cs w h hfr hle hone
    simp only [List.length_cons] at hle
    have hc : w.cell? ⟨b, off + i, none⟩ = cs[off + i]? := cellOf h _
    have hlt : off + i < cs.length := by omega
    rw [List.getElem?_eq_getElem hlt] at hc
    have hf : w.frozen? ⟨b, off + i, none⟩ = false := by
      have := hfr (off + i) hlt
      simp only [World.frozen?, h]
      simpa using this
    obtain ⟨w', h1, h2, h3, h4⟩ := ih (i + 1) off (cs.set (off + i) v) (w.setCell ⟨b, off + i, none⟩ v) (setCell_heap h v) (by simpa using hfr) (by simp; omega) (fun u hu => hone u (by simp [hu]))
    refine ⟨w', ?_, h2, fun k hk => (h3 k hk).trans (setCell_other v k hk), ⟨h4.os, h4.tape, h4.output⟩⟩
    simp only [storeCells, addr_add, Sem.run_bind, run_store _ _ _ _ _ (hone v (by simp)), hc, hf]
    simpa using h1

theorem ou_storeL {b off : Nat} {vs : List Value} {v : Value} {g : Bool} (i : Nat) {tb : TypeId} {cs : List Value} {n : Nat} (ha : tyAgg C.P t = some (g, n)) (hx : evo env x = some (.pointer (some ⟨b, off, none⟩))) (hy : evo env y = some v)
    (hv : v.cells.toList = vs) (hn : vs.length = n) (hone : ∀ u ∈ vs, u.oneCell' = true) (hi : As[i]? = some (row b tb cs)) (hlt : off + n ≤ cs.length) : OpU C ds env As ⟨d, .store t x y, ty, pos, af, gd⟩ undef (As.set i (row b tb (wr cs off vs))) := fun c w hc hs => by
  obtain ⟨fr, hfr, hb⟩ := hs.rowGet i hi
  obtain ⟨w', h1, h2, h3, h4⟩ := storeCells_row (P := C.P) vs 0 off cs w hb hfr (by simpa [hn] using hlt) hone
  refine ⟨_, _, w', ⟨rfl, rfl⟩, .inr ⟨?_, rfl⟩, hs.rowSet i hi (wr_length _ _ _) hfr hb h2 h3, h4⟩
  have hsz : v.cells.size = n := by rw [← hn, ← hv]; simp
  simp only [execOp, hc.eval hx, hc.eval hy, Instr.storeAt, Instr.sureAddr, storeVar]
  simp [(tyAgg_spec ha w).2, hsz, hv, h1]
theorem ou_storeW {b off : Nat} {vs : List Value} {v : Value} {g : Bool} {tb : TypeId} {cs cs' : List Value} {n : Nat} {As' : List HP} (ha : tyAgg C.P t = some (g, n)) (hx : evo env x = some (.pointer (some ⟨b, off, none⟩))) (hy : evo env y = some v)
    (hv : CellsOf v vs) (hn : vs.length = n) (hone : (vs.all fun u => u.oneCell') = true) (hw : Wr cs off vs cs') (hi : Rep As (row b tb cs) (row b tb cs') As') : OpU C ds env As ⟨d, .store t x y, ty, pos, af, gd⟩ undef As' := by
  obtain ⟨i, h1, h2⟩ := hi.spec
  obtain ⟨e, hlt⟩ := hw.spec
  subst e; subst h2
  exact ou_storeL i ha hx hy hv.spec hn (by simpa using hone) h1 (by omega)
theorem zeroCells_spec {P : Program} {t : TypeId} {cs : List Value} (h : zeroCells' P t = some cs) : ∃ z, zeroOf P t = some z ∧ z.cells.toList = cs := by
  unfold zeroCells' at h; unfold zeroOf
  split at h
  · rename_i i hi
    cases hz : i.zero with
    | none => rw [hz] at h; cases h
    | some z => rw [hz] at h; simp only [Option.map_some, Option.some.injEq] at h; exact ⟨z, by simp [hi, hz], h⟩
  · cases h
theorem placesL_spec {P : Program} {w : World} : ∀ (l : List Field) (r : List (Nat × Nat)), placesL P l = some r → Sem.run P (l.mapM fun f => do pure (f.offset, ← sizeOf f.type)) w = .ok r w := by
  intro l; induction l with
  | nil => intro r h; simp [placesL] at h; subst h; simp
  | cons f l ih =>
    intro r h
    simp only [placesL] at h
    split at h
    · rename_i j l' h1 h2
      simp only [Option.some.injEq] at h; subst h
      have e1 : Sem.run P (sizeOf f.type) w = .ok j.size w := by simp [sizeOf, typeInfo, h1]
      rw [List.mapM_cons, Sem.run_bind, Sem.run_bind, e1]
      simp only [Result.andThen_ok, Sem.run_pure]
      rw [Sem.run_bind, ih l' h2]
      simp
    · cases h
def OpBA (C : Cx) (ds : List Deferred) (env : Env) (As : List HP) (o : Oper) (f : Nat → Value) (As' : Nat → List HP) : Prop := OpR C ds env As o fun u B => ∃ b, u = f b ∧ B = As' b
theorem ob_alloc {cs : List Value} {As' : Nat → List HP} (hz : zeroCells' C.P t = some cs) (hA : ∀ b, App As (row b t cs) (As' b)) : OpBA C ds env As ⟨d, .alloc t, ty, pos, af, gd⟩ (fun b => .pointer (some ⟨b, 0, none⟩)) As' := fun a w ha hs => by
  obtain ⟨z, hz', rfl⟩ := zeroCells_spec hz
  refine ⟨_, _, { w with heap := w.heap.push (.cells z.cells t) }, ⟨w.heap.size, rfl, rfl⟩, .inl ?_, (hA _).spec ▸ hs.rowPush (fr := (0, 0)) (by simp) (pushNew w _) (pushOld w _), ⟨rfl, rfl, rfl⟩⟩
  simp [execOp, Instr.alloc, zeroOf_spec hz', newVar, newRow]
theorem ob_box {v : Value} {cs : List Value} {As' : Nat → List HP} (hx : evo env x = some v) (hc : CellsOf v cs) (hA : ∀ b, App As (row b t cs) (As' b)) : OpBA C ds env As ⟨d, .box t x, ty, pos, af, gd⟩ (fun b => .pointer (some ⟨b, 0, none⟩)) As' := fun a w ha hs => by
  have e := hc.spec; subst e
  refine ⟨_, _, { w with heap := w.heap.push (.cells v.cells t) }, ⟨w.heap.size, rfl, rfl⟩, .inl ?_, (hA _).spec ▸ hs.rowPush (fr := (0, 0)) (by simp) (pushNew w _) (pushOld w _), ⟨rfl, rfl, rfl⟩⟩
  simp [execOp, Instr.box, ha.eval hx, newVar, newRow]
theorem ov_fieldAddr {b off j i : Nat} (hf : fieldOff C.P t i = some j) (hx : evo env x = some (.pointer (some ⟨b, off, none⟩))) : OpV C ds env As ⟨d, .fieldAddr t x i, ty, pos, af, gd⟩ (.pointer (some ⟨b, off + j, none⟩)) := fun a w ha _ => by
  unfold fieldOff at hf
  split at hf
  · rename_i fs hu
    split at hf
    · rename_i f hfi
      split at hf
      · rename_i k hk
        split at hf
        · cases hf
        · rename_i hz
          simp only [Option.some.injEq] at hf; subst hf
          simp [execOp, ha.eval hx, Instr.fieldAt, run_underlying hu, hfi, Instr.sureAddr, fieldPlace, sizeOf, typeInfo, hk, hz, addr_add]
      · cases hf
    · cases hf
  · cases hf
theorem ov_idxL {e : TypeId} {sz bs b off l c i : Nat} (hu : sliceOf C.P t = some (e, sz, bs)) (hx : evo env x = some (.slice (some ⟨b, off, none⟩) l c)) (hy : evo env y = some (.int k m)) (hm : m = (i : Int)) (hi : i < l) :
    OpV C ds env As ⟨d, .indexAddr t x y, ty, pos, af, gd⟩ (.pointer (some ⟨b, off + i * sz, none⟩)) := fun a w ha _ => by
  obtain ⟨h1, j, h2, h3, h4⟩ := sliceOf_spec hu
  subst hm
  have hb : (0 : Int) ≤ (i : Int) ∧ (i : Int) < (l : Int) := by omega
  simp [execOp, ha.eval hx, ha.eval hy, Instr.indexAt, asIntOf, run_underlying h1, sizeOf, typeInfo, h2, h3, addr_add, hi]

/-! ### Structs built -/
inductive Bl (pl : List (Nat × Nat)) : List Value → List (Nat × Value) → List Value → Prop
  | n {cs : List Value} : Bl pl cs [] cs
  | c {i o n : Nat} {v : Value} {vs cs cs1 cs2 : List Value} {r : List (Nat × Value)} : pl[i]? = some (o, n) → CellsOf v vs → vs.length = n → Wr cs o vs cs1 → Bl pl cs1 r cs2 → Bl pl cs ((i, v) :: r) cs2
theorem foldl_wr : ∀ (vs : List Value) (cs : List Value) (o k : Nat), ((vs.zipIdx k).foldl (fun (cs : Array Value) (x : Value × Nat) => cs.setIfInBounds (o + x.2) x.1) cs.toArray) = (wr cs (o + k) vs).toArray := by
  intro vs; induction vs with
  | nil => intro cs o k; rfl
  | cons v r ih => intro cs o k; simp only [List.zipIdx_cons, List.foldl_cons, List.setIfInBounds_toArray, wr]; rw [ih]; rfl
theorem fill_bl {pl : List (Nat × Nat)} {cs cs' : List Value} {ps : List (Nat × Value)} (h : Bl pl cs ps cs') : Instr.fill (pl.toArray[·]?) cs.toArray ps = some cs'.toArray := by
  induction h with
  | n => rfl
  | @c i o n v vs cs cs1 cs2 r h1 h2 h3 h4 _ ih =>
    obtain ⟨e, hle⟩ := h4.spec
    have hz := congrArg List.toArray h2.spec
    simp only [Array.toArray_toList] at hz
    simp only [Instr.fill, List.getElem?_toArray, h1]
    rw [if_neg (by rw [hz]; simp [h3]; omega), hz, ← ih, ← e]
    congr 1
    · funext x; simp
    · rw [← Array.foldl_toList]
      have := foldl_wr vs cs o 0
      simp only [Nat.add_zero] at this
      rw [← this]; simp
def evps (env : Env) : List (Nat × Operand) → Option (List (Nat × Value))
  | [] => some []
  | (i, x) :: r => match evo env x, evps env r with
    | some v, some vs => some ((i, v) :: vs)
    | _, _ => none
theorem EnvOk.evalps {N : Nat} {ds : List Deferred} {env : Env} {a : Act} (h : EnvOk N ds env a) : ∀ {xs : List (Nat × Operand)} {vs : List (Nat × Value)}, evps env xs = some vs → xs.map (fun p => (p.1, a.eval p.2)) = vs := by
  intro xs; induction xs with
  | nil => intro vs e; simpa [evps] using e
  | cons x r ih =>
    intro vs e
    obtain ⟨i, x⟩ := x
    simp only [evps] at e
    split at e
    · rename_i v vs' h1 h2
      simp only [Option.some.injEq] at e; subst e
      simp [h.eval h1, ih h2]
    · cases e
theorem ov_build {parts : Array (Nat × Operand)} {ps : List (Nat × Value)} {pl : List (Nat × Nat)} {zs cs : List Value} (hz : zeroCells' C.P t = some zs) (hpl : placesOf C.P t = some pl) (hp : evps env parts.toList = some ps) (hb : Bl pl zs ps cs) : OpV C ds env As ⟨d, .build t parts, ty, pos, af, gd⟩ (.agg cs.toArray) := fun a w ha _ => by
  obtain ⟨z, hz', hzc⟩ := zeroCells_spec hz
  have hparts : (parts.map fun (i, x) => (i, a.eval x)).toList = ps := by rw [← ha.evalps hp]; simp
  have hzz : z.cells = zs.toArray := by rw [← hzc]
  unfold placesOf at hpl
  split at hpl
  · rename_i fs hu
    have h1 := placesL_spec (w := w) _ _ hpl
    have h2 : Sem.run C.P (fs.mapM fun f => do pure (f.offset, ← sizeOf f.type)) w = .ok pl.toArray w := by
      rw [Array.mapM_eq_mapM_toList, Sem.run_map, h1]; rfl
    have h3 := fill_bl hb
    simp only [execOp, Instr.build, Sem.run_bind, zeroOf_spec hz', Result.andThen_ok, run_underlying hu]
    rw [h2]
    simp only [Result.andThen_ok, hparts, hzz, h3]
    rfl
  · cases hpl

/-! ### Calls -/
theorem callable_spec {P : Program} {f : FuncId} (h : callable P f = true) (args : Array Value) (w : World) : (callFunc f args).run P w = .ok (.enter f args) w := by
  unfold callable at h
  split at h
  · rename_i fn hf
    simp only [Bool.and_eq_true, bne_iff_ne, ne_eq] at h
    have hb : fn.body ≠ none := by intro e; simp [e] at h
    simp [callFunc, hf, h.1, hb]
  · cases h
theorem oc_fn {f : FuncId} {args : Array Operand} {ats : Array TypeId} {vs : List Value} (hc : callable C.P f = true) (hv : evs env args.toList = some vs) : OpC C ds env As ⟨d, .call ⟨.value (.func f), args, ats⟩, ty, pos, af, gd⟩ f vs.toArray := fun a w ha _ => by
  have h1 := evalsA ha hv
  simp [execOp, resolve, h1, Act.eval, Deferred.ofValue, invoke, callable_spec hc]
theorem oc_clo {f : FuncId} {g : Operand} {ps qs : Array Value} {args : Array Operand} {ats : Array TypeId} {vs : List Value} (hc : callable C.P f = true) (hg : evo env g = some (.func (.func f) ps qs)) (hv : evs env args.toList = some vs) :
    OpC C ds env As ⟨d, .call ⟨.value g, args, ats⟩, ty, pos, af, gd⟩ f (ps ++ vs.toArray ++ qs) := fun a w ha _ => by
  have h1 := evalsA ha hv
  simp [execOp, resolve, h1, ha.eval hg, Deferred.ofValue, invoke, callable_spec hc]

theorem ResV.cell {s b off : Nat} {v : Value} (i : Nat) {tb : TypeId} {cs : List Value} (ha : tyAgg C.P t = some (false, 1)) (hx : alook env s = some (.pointer (some ⟨b, off, none⟩))) (hi : As[i]? = some (row b tb cs)) (hv : cs[off]? = some v) : ResV C ds env As (.cell s t) v := fun a w hc hs => by
  have := hc.slot s _ hx
  have h2 := (hs.cell i hi off).trans hv
  simp [resF, this, asAddr, loadVar, (tyAgg_spec ha w).1, h2]
theorem ResV.cellA {s b off n : Nat} {vs : List Value} (i : Nat) {tb : TypeId} {cs : List Value} (ha : tyAgg C.P t = some (true, n)) (hx : alook env s = some (.pointer (some ⟨b, off, none⟩))) (hi : As[i]? = some (row b tb cs)) (hk : Tk cs off n vs) : ResV C ds env As (.cell s t) (.agg vs.toArray) := fun a w hc hs => by
  have := hc.slot s _ hx
  obtain ⟨hn, hv⟩ := hk.spec
  have h1 := run_loadCells_list (P := C.P) (w := w) ⟨b, off, none⟩ vs (fun j v hj => by
    rw [addr_add, hs.cell i hi]
    rw [← hv, List.getElem?_take] at hj
    split at hj
    · simpa using hj
    · cases hj)
  simp [resF, this, asAddr, loadVar, (tyAgg_spec ha w).1, (tyAgg_spec ha w).2, ← hn, h1]
variable {ops : Array Oper} {Q : Exit → Act → World → Prop} {o : Oper} {rest : List Oper} {op : Op} {dt : Tmp}
theorem LW.opBA {f : Nat → Value} {As' : Nat → List HP} (hv : OpBA C ds env As ⟨some dt, op, ty, pos, af, gd⟩ f As') (hg : wantedE ops env ⟨some dt, op, ty, pos, af, gd⟩ = some true) (hd : Nat.ble (dt + 1) C.N = true)
    (h : ∀ b, LW C ds ops Q rest ((dt, f b) :: env) (As' b)) : LW C ds ops Q (⟨some dt, op, ty, pos, af, gd⟩ :: rest) env As := LW.opR hv hg hd (by rintro _ _ ⟨b, rfl, rfl⟩; exact h b)
theorem DO.opBA {Bs : List HP} {fuel : Nat} {listed l' : Array Bool} {i : Nat} {f : Nat → Value} {As' : Nat → List HP} (js : List Nat) (hi : ops[i]? = some ⟨some dt, op, ty, pos, af, gd⟩) (hv : OpBA C ds env As ⟨some dt, op, ty, pos, af, gd⟩ f As') (hg : wantedE ops env ⟨some dt, op, ty, pos, af, gd⟩ = some true) (hd : Nat.ble (dt + 1) C.N = true)
    (hok : ∀ b, okIdx js (As' b).length = true) (hB : ∀ b, picks js (As' b) = Bs) (hl : listed.setIfInBounds i true = l') (h : ∀ b, DW C ds ops Q Bs fuel l' ((dt, f b) :: env) (As' b)) : DO C ds ops Q Bs fuel listed i env As :=
  DO.opR js hi hv hg hd (by rintro _ _ ⟨b, rfl, rfl⟩; exact ⟨hok b, hB b⟩) hl (by rintro _ _ ⟨b, rfl, rfl⟩; exact h b)
end
end Sx
end Go.Proofs.Ytkofbanncacamaa
