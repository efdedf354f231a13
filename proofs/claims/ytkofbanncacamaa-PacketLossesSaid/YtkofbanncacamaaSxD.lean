/- Slices that are owned (append, conversions), maps with integer keys. -/
import Derived.Test.YtkofbanncacamaaSxC
import Derived.Laws.Append
namespace Go.Proofs.Ytkofbanncacamaa
namespace Sx

/-- v is a slice of n elements of sz cells each, whose block is owned; xs: the cells. -/
def ownS (e : TypeId) (sz : Nat) (v : Value) (n : Nat) (xs : List Value) : HP := fun h =>
  xs.length = n * sz ∧ ((v = .slice none 0 0 ∧ n = 0) ∨ ∃ (b c : Nat) (extra : List Value), v = .slice (some ⟨b, 0, none⟩) n c ∧ n ≤ c ∧ (xs ++ extra).length = c * sz ∧ row b e (xs ++ extra) h)
def bv (c : UInt8) : Value := .int .u8 c.toNat
/-- an owned slice of bytes -/
abbrev bytesA (e : TypeId) (v : Value) (l : List UInt8) : HP := ownS e 1 v l.length (l.map bv)

theorem ownS_nil (e : TypeId) (sz : Nat) (h : Hl) : ownS e sz (.slice none 0 0) 0 [] h := ⟨by simp, .inl ⟨rfl, rfl⟩⟩

theorem nextcap_le (need old : Nat) (h : old < need) : Builtin.nextslicecap need old ≤ 2 * need + 1000 := by
  unfold Builtin.nextslicecap
  split
  · omega
  · split
    · omega
    · have key : ∀ (r c : Nat), c ≤ 2 * need + 1000 → Builtin.growBy need r c ≤ 2 * need + 1000 := by
        intro r; induction r with
        | zero => intro c hc; simpa [Builtin.growBy] using hc
        | succ r ih =>
          intro c hc
          simp only [Builtin.growBy]
          split
          · exact hc
          · exact ih _ (by omega)
      exact key _ _ (by omega)

theorem zeroCells_len (z : Array Value) (n : Nat) : (Builtin.zeroCells z n).toList.length = n * z.size := by simp [Builtin.zeroCells]

/-- what append reads: its second operand's cells -/
def SrcOk (P : Program) (w : World) (sz : Nat) (x : Value) (m : Nat) (ys : List Value) : Prop :=
  ∀ w' : World, w'.heap = w.heap → (Builtin.lenOf x).run P w' = .ok m w' ∧ (Builtin.firstCells sz m x).run P w' = .ok ys.toArray w'
theorem cell_heap {w w' : World} (h : w'.heap = w.heap) (a : Addr) : w'.cell? a = w.cell? a := by simp [World.cell?, h]
theorem src_nil {P : Program} {w : World} (sz c : Nat) : SrcOk P w sz (.slice none 0 c) 0 [] := fun _ _ => ⟨rfl, rfl⟩
theorem src_cells {P : Program} {w : World} {sz b off m c : Nat} {ys : List Value} (hl : ys.length = m * sz) (hc : ∀ (j : Nat) (v : Value), ys[j]? = some v → w.cell? ⟨b, off + j, none⟩ = some v) : SrcOk P w sz (.slice (some ⟨b, off, none⟩) m c) m ys := by
  intro w' hw
  refine ⟨rfl, ?_⟩
  have h1 := run_loadCells_list (P := P) (w := w') ⟨b, off, none⟩ ys (fun j v hj => by rw [addr_add, cell_heap hw]; exact hc j v hj)
  rw [hl] at h1
  simpa [Builtin.firstCells] using h1
theorem src_str {P : Program} {w : World} (l : List UInt8) : SrcOk P w 1 (S l) l.length (l.map bv) := by
  intro w' _
  refine ⟨rfl, ?_⟩
  have e : (⟨l.toArray⟩ : ByteArray).extract 0 l.length = ⟨l.toArray⟩ := by
    have := Lib.extract_eq ⟨l.toArray⟩ 0 l.length
    rw [this]; simp
  simp only [Builtin.firstCells, S, e, Sem.run_pure]
  simp; intros; rfl

/-- The last atom takes the place of atom i. -/
theorem Sat.lastTo {w : World} {As : List HP} {B : HP} (h : Sat w (As ++ [B])) (i : Nat) (hi : i < As.length) : Sat w (As.set i B) := by
  obtain ⟨H, a⟩ := h
  have hl : (As ++ [B]).length = As.length + 1 := by simp
  refine ⟨fun j => if j = i then H As.length else H j, fun j C hj => ?_, fun j k hj hk hjk => ?_, fun j hj => ?_⟩
  · by_cases e : j = i
    · subst e
      rw [List.getElem?_set_self hi] at hj
      simp only [Option.some.injEq] at hj; subst hj
      simp only [if_true]; exact a.ok As.length _ (by simp)
    · rw [List.getElem?_set_ne (Ne.symm e)] at hj
      simp only [if_neg e]
      exact a.ok j C (by rw [List.getElem?_append_left (lt_of_get hj)]; exact hj)
  · simp only [List.length_set] at hj hk
    by_cases e : j = i
    · rw [if_pos e, if_neg (fun e' => hjk (e.trans e'.symm))]; exact a.dj _ _ (by omega) (by omega) (by omega)
    · rw [if_neg e]
      by_cases e' : k = i
      · rw [if_pos e']; exact a.dj _ _ (by omega) (by omega) (by omega)
      · rw [if_neg e']; exact a.dj _ _ (by omega) (by omega) hjk
  · simp only [List.length_set] at hj
    by_cases e : j = i
    · rw [if_pos e]; exact a.inn _ (by omega)
    · rw [if_neg e]; exact a.inn _ (by omega)

theorem wr_app : ∀ (ys pre post : List Value), ys.length ≤ post.length → ∃ post', wr (pre ++ post) pre.length ys = pre ++ ys ++ post' := by
  intro ys; induction ys with
  | nil => intro pre post _; exact ⟨post, by simp [wr]⟩
  | cons y r ih =>
    intro pre post h
    cases post with
    | nil => simp at h
    | cons p post =>
      obtain ⟨post', h⟩ := ih (pre ++ [y]) post (by simpa using h)
      refine ⟨post', ?_⟩
      simp only [wr]
      have e1 : (pre ++ p :: post).set pre.length y = pre ++ [y] ++ post := by simp
      have e2 : (pre ++ [y]).length = pre.length + 1 := by simp
      rw [e1, ← e2, h]; simp

/-- the second operand of append is a string or a slice -/
def strOrSlice (P : Program) (t : TypeId) : Prop := P.underlying t = some .string ∨ ∃ e, P.underlying t = some (.slice e)

theorem run_append {P : Program} {w : World} {e : TypeId} {sz bs : Nat} {t ty t2 : TypeId} {z : Value} {v x : Value} {n m : Nat} {xs ys : List Value} {As : List HP}
    (hu : sliceOf P t = some (e, sz, bs)) (hz : zeroOf P e = some z) (hzs : z.cells.size = sz) (ht2 : strOrSlice P t2) (hs : Sat w As) (i : Nat) (hi : As[i]? = some (ownS e sz v n xs))
    (hx : SrcOk P w sz x m ys) (hy : ys.length = m * sz) (hone : ∀ u ∈ ys, u.oneCell' = true) (hb : (n + m) * bs ≤ 2 ^ 40) (hbs : bs ≤ 2 ^ 20) (hn : n + m ≤ 2 ^ 40) :
    ∃ ad c' w', (Builtin.append_ #[t, t2] ty #[v, x]).run P w = .ok (.slice ad (n + m) c') w' ∧ Sat w' (As.set i (ownS e sz (.slice ad (n + m) c') (n + m) (xs ++ ys))) ∧ Same w w' := by
  obtain ⟨h1, q, h2, h3, h4⟩ := sliceOf_spec hu
  have hli := lt_of_get hi
  obtain ⟨g, ⟨hxl, hcase⟩, hs'⟩ := hs.take i hi
  have hget : (As.set i (ex g))[i]? = some (ex g) := by rw [List.getElem?_set_self hli]
  -- the run, apart from what the operands hold
  have fits : ∀ (base : Option Addr) (c : Nat), v = .slice base n c → n + m ≤ c → (Builtin.append_ #[t, t2] ty #[v, x]).run P w =
      ((match base with | some a => storeCells (a.add (n * sz)) ys | none => (pure () : Sem Unit)).run P w).andThen fun _ w' => .ok (.slice base (n + m) c) w' := by
    intro base c hv hc
    subst hv
    obtain ⟨hx1, hx2⟩ := hx w rfl
    rcases ht2 with hd | ⟨e', hd⟩ <;>
    · simp only [Builtin.append_, List.getElem?_toArray, List.getElem?_cons_zero, List.getElem?_cons_succ, Sem.run_bind, run_underlying h1, run_underlying hd, Result.andThen_ok, sizeOf, typeInfo, run_program, h2, Sem.run_pure,
        Sem.run_ite, Bool.false_eq_true, if_false, hx1, hc, if_true, Bool.not_false, h3, hx2]
      cases base <;> simp
  have grow : ∀ (base : Option Addr) (c : Nat), v = .slice base n c → ¬ n + m ≤ c → (∀ w' : World, w'.heap = w.heap → (Builtin.firstCells sz n v).run P w' = .ok xs.toArray w') →
      ∃ ad c' w', (Builtin.append_ #[t, t2] ty #[v, x]).run P w = .ok (.slice ad (n + m) c') w' ∧ Sat w' (As.set i (ownS e sz (.slice ad (n + m) c') (n + m) (xs ++ ys))) ∧ Same w w' := by
    intro base c hv hc hold
    have hcap := nextcap_le (n + m) c (by omega)
    have hroom : ¬ (Builtin.nextslicecap (n + m) c * bs > 2 ^ 48) := by
      have h5 : Builtin.nextslicecap (n + m) c * bs ≤ (2 * (n + m) + 1000) * bs := Nat.mul_le_mul_right _ hcap
      have h6 : (2 * (n + m) + 1000) * bs = 2 * ((n + m) * bs) + 1000 * bs := by rw [Nat.add_mul, Nat.mul_assoc]
      omega
    have hneed : ¬ ((((n + m : Nat) : Int) > IntKind.i64.max) ∧ (False ∨ bs = 0)) := by
      intro h; have : (IntKind.i64.max : Int) = 9223372036854775807 := by decide
      omega
    generalize hN : (Question.appendCap (n + m) c e).cut (w.tape w.drawn (.appendCap (n + m) c e)) = N
    have hNle : n + m ≤ N := by rw [← hN]; simp [Question.cut]
    let rest : List Value := (Builtin.zeroCells z.cells (N - (n + m))).toList
    let w1 : World := { w with drawn := w.drawn + 1 }
    let w' : World := { w1 with heap := w1.heap.push (.cells (xs ++ ys ++ rest).toArray e) }
    have hw1 := hold w1 rfl
    have hx1 := (hx w rfl).1
    have hx2 := (hx w1 rfl).2
    have hzz := zeroOf_spec hz w1
    have hch : (choose (.appendCap (n + m) c e)).run P w = .ok N w1 := by rw [run_choose]; simp [Question.forced, hN, w1]
    refine ⟨some ⟨w.heap.size, 0, none⟩, N, w', ?_, ?_, ⟨rfl, rfl, rfl⟩⟩
    · subst hv
      rcases ht2 with hd | ⟨e', hd⟩ <;>
      · simp only [Builtin.append_, List.getElem?_toArray, List.getElem?_cons_zero, List.getElem?_cons_succ, Sem.run_bind, run_underlying h1, run_underlying hd, Result.andThen_ok, sizeOf, typeInfo, run_program, h2, Sem.run_pure,
          Sem.run_ite, Bool.false_eq_true, if_false, hx1, hc, if_true, Bool.not_false, h3, h4, hneed, hroom, hch, run_askRoom, hw1, hx2, hzz, newRow, run_newObj]
        have ea : (xs.toArray ++ ys.toArray ++ Builtin.zeroCells z.cells (N - (n + m))) = (xs ++ ys ++ rest).toArray := by apply Array.ext'; simp [rest]
        rw [ea]
    · have hlen : (xs ++ ys ++ rest).length = N * sz := by
        simp only [List.length_append, hxl, hy, rest, zeroCells_len, hzs]
        rw [← Nat.add_mul, ← Nat.add_mul]; congr 1; omega
      have hp := (hs'.keep (w' := w1) (fun _ _ => rfl)).rowPush (w' := w') (t := e) (cs := xs ++ ys ++ rest) (fr := (0, 0)) (by simp) (pushNew w1 _) (pushOld w1 _)
      have h5 := hp.lastTo i (by simpa using hli)
      rw [List.set_set] at h5
      have h6 := h5.imp i (A := row w1.heap.size e (xs ++ ys ++ rest)) (B := ownS e sz (.slice (some ⟨w.heap.size, 0, none⟩) (n + m) N) (n + m) (xs ++ ys)) (by rw [List.getElem?_set_self hli])
        (fun g' hg' => ⟨by simp [hxl, hy, Nat.add_mul], .inr ⟨w1.heap.size, N, rest, rfl, hNle, hlen, hg'⟩⟩)
      rw [List.set_set] at h6; exact h6
  rcases hcase with ⟨rfl, rfl⟩ | ⟨b, c, extra, rfl, hnc, hcl, hrow⟩
  · simp only [Nat.zero_mul] at hxl
    have hx0 : xs = [] := List.eq_nil_of_length_eq_zero hxl
    subst hx0
    by_cases hm : m = 0
    · subst hm
      have hy0 : ys = [] := List.eq_nil_of_length_eq_zero (by simpa using hy)
      subst hy0
      refine ⟨none, 0, w, by rw [fits none 0 rfl (by omega)]; simp, ?_, Same.refl w⟩
      have := hs'.imp i (B := ownS e sz (.slice none 0 0) (0 + 0) ([] ++ [])) hget (fun g' _ => ownS_nil e sz g')
      rwa [List.set_set] at this
    · exact grow none 0 rfl (by omega) (fun w' _ => rfl)
  · obtain ⟨fr, hfr, hg⟩ := hrow
    have hs1 : Sat w (As.set i (row b e (xs ++ extra))) := by
      have := hs'.imp i (B := row b e (xs ++ extra)) hget (fun g' hg' => by rw [show g' = g from hg']; exact ⟨fr, hfr, hg⟩)
      rwa [List.set_set] at this
    have hget1 : (As.set i (row b e (xs ++ extra)))[i]? = some (row b e (xs ++ extra)) := by rw [List.getElem?_set_self hli]
    obtain ⟨fr', hfr', hh⟩ := hs1.rowGet i hget1
    by_cases hc : n + m ≤ c
    · have hle : 0 + n * sz + ys.length ≤ (xs ++ extra).length := by
        rw [hcl, hy, Nat.zero_add, ← Nat.add_mul]; exact Nat.mul_le_mul_right _ hc
      obtain ⟨w', g1, g2, g3, g4⟩ := storeCells_row (P := P) ys 0 (n * sz) (xs ++ extra) w hh hfr' (by omega) hone
      have hwr : ∃ extra', wr (xs ++ extra) (n * sz + 0) ys = xs ++ ys ++ extra' := by
        rw [Nat.add_zero, ← hxl]
        exact wr_app ys xs extra (by simp at hle ⊢; omega)
      obtain ⟨extra', hwr⟩ := hwr
      refine ⟨some ⟨b, 0, none⟩, c, w', ?_, ?_, g4⟩
      · rw [fits _ c rfl hc]
        simp only [addr_add, Nat.zero_add, g1, Result.andThen_ok]
      · have h5 := hs1.rowSet i hget1 (cs' := wr (xs ++ extra) (n * sz + 0) ys) (wr_length _ _ _) hfr' hh g2 g3
        rw [List.set_set] at h5
        have h6 := h5.imp i (B := ownS e sz (.slice (some ⟨b, 0, none⟩) (n + m) c) (n + m) (xs ++ ys)) (by rw [List.getElem?_set_self hli]) (fun g' hg' => ⟨by simp [hxl, hy, Nat.add_mul], .inr ⟨b, c, extra', rfl, hc, by rw [← hwr, wr_length]; exact hcl, by rw [← hwr]; exact hg'⟩⟩)
        rwa [List.set_set] at h6
    · refine grow _ c rfl hc fun w' hw' => ?_
      have h1 := run_loadCells_list (P := P) (w := w') ⟨b, 0, none⟩ xs (fun j v hj => by
        rw [addr_add, cell_heap hw', Nat.zero_add, cellOf hh]
        rw [List.getElem?_append_left (lt_of_get hj)]; exact hj)
      rw [hxl] at h1
      simpa [Builtin.firstCells] using h1

section
variable {C : Cx} {ds : List Deferred} {env : Env} {As : List HP} {d : Option Tmp} {ty : TypeId} {pos : String} {af : Array Edge} {gd : Option (Nat × Bool)}
/-- A slice of n elements comes out; the atoms hang on it. -/
def OpX (C : Cx) (ds : List Deferred) (env : Env) (As : List HP) (o : Oper) (n : Nat) (As' : Value → List HP) : Prop := OpR C ds env As o fun u B => ∃ (ad : Option Addr) (c : Nat), u = .slice ad n c ∧ B = As' u
variable {ops : Array Oper} {Q : Exit → Act → World → Prop} {o : Oper} {rest : List Oper} {op : Op} {dt : Tmp}
theorem LW.opX {n : Nat} {As' : Value → List HP} (hv : OpX C ds env As ⟨some dt, op, ty, pos, af, gd⟩ n As') (hg : wantedE ops env ⟨some dt, op, ty, pos, af, gd⟩ = some true) (hd : Nat.ble (dt + 1) C.N = true)
    (h : ∀ ad c, LW C ds ops Q rest ((dt, .slice ad n c) :: env) (As' (.slice ad n c))) : LW C ds ops Q (⟨some dt, op, ty, pos, af, gd⟩ :: rest) env As := LW.opR hv hg hd (by rintro v _ ⟨ad, c, rfl, rfl⟩; exact h ad c)
theorem DO.opX {Bs : List HP} {fuel : Nat} {listed l' : Array Bool} {i n : Nat} {As' : Value → List HP} (js : List Nat) (hi : ops[i]? = some ⟨some dt, op, ty, pos, af, gd⟩) (hv : OpX C ds env As ⟨some dt, op, ty, pos, af, gd⟩ n As') (hg : wantedE ops env ⟨some dt, op, ty, pos, af, gd⟩ = some true) (hd : Nat.ble (dt + 1) C.N = true)
    (hok : ∀ b, okIdx js (As' b).length = true) (hB : ∀ b, picks js (As' b) = Bs) (hl : listed.setIfInBounds i true = l') (h : ∀ ad c, DW C ds ops Q Bs fuel l' ((dt, .slice ad n c) :: env) (As' (.slice ad n c))) : DO C ds ops Q Bs fuel listed i env As :=
  DO.opR js hi hv hg hd (by rintro v _ ⟨ad, c, rfl, rfl⟩; exact ⟨hok _, hB _⟩) hl (by rintro v _ ⟨ad, c, rfl, rfl⟩; exact h ad c)

theorem ox_append {e : TypeId} {sz bs : Nat} {t t2 : TypeId} {z : Value} {v x : Value} {n m : Nat} {xs ys : List Value} {a1 a2 : Operand} {As' : Value → List HP}
    (hu : sliceOf C.P t = some (e, sz, bs)) (hz : zeroOf C.P e = some z) (hzs : z.cells.size = sz) (ht2 : strOrSlice C.P t2) (hx1 : evo env a1 = some v) (hx2 : evo env a2 = some x)
    (hsrc : ∀ w, Sat w As → SrcOk C.P w sz x m ys) (hy : ys.length = m * sz) (hone : (ys.all fun u => u.oneCell') = true) (hb : (n + m) * bs ≤ 2 ^ 40) (hbs : bs ≤ 2 ^ 20) (hn : n + m ≤ 2 ^ 40)
    (hi : ∀ v', Rep As (ownS e sz v n xs) (ownS e sz v' (n + m) (xs ++ ys)) (As' v')) : OpX C ds env As ⟨d, .call ⟨.builtin .append, #[a1, a2], #[t, t2]⟩, ty, pos, af, gd⟩ (n + m) As' := fun a w ha hs => by
  obtain ⟨i, h1, _⟩ := (hi v).spec
  have run := fun (j : Nat) (hj : As[j]? = some (ownS e sz v n xs)) => run_append (ty := ty) hu hz hzs ht2 hs j hj (hsrc w hs) hy (by simpa using hone) hb hbs hn
  obtain ⟨ad, c', w', h2, h3, h4⟩ := run i h1
  refine ⟨.slice ad (n + m) c', As' (.slice ad (n + m) c'), w', ⟨ad, c', rfl, rfl⟩, .inl ?_, ?_, h4⟩
  · simp [execOp, resolve, invoke, builtin, ha.eval hx1, ha.eval hx2, h2]
  · obtain ⟨j, h5, h6⟩ := (hi (.slice ad (n + m) c')).spec
    obtain ⟨ad2, c2, w2, g2, g3, g4⟩ := run j h5
    rw [h2] at g2
    simp only [Result.ok.injEq, Value.slice.injEq, true_and] at g2
    obtain ⟨⟨rfl, rfl⟩, rfl⟩ := g2
    rw [← h6]; exact g3
/-- append(b, s...) with a string's bytes -/
theorem ox_appS {e : TypeId} {t t2 : TypeId} {v : Value} {l0 l : List UInt8} {a1 a2 : Operand} {As' : Value → List HP}
    (hu : sliceOf C.P t = some (e, 1, 1)) (hz : zeroOf C.P e = some (.int .u8 0)) (ht2 : C.P.underlying t2 = some .string) (hx1 : evo env a1 = some v) (hx2 : evo env a2 = some (S l))
    (hn : l0.length + l.length ≤ 1000000000) (hi : ∀ v', Rep As (bytesA e v l0) (bytesA e v' (l0 ++ l)) (As' v')) : OpX C ds env As ⟨d, .call ⟨.builtin .append, #[a1, a2], #[t, t2]⟩, ty, pos, af, gd⟩ (l0.length + l.length) As' :=
  ox_append (n := l0.length) (m := l.length) (bs := 1) hu hz rfl (.inl ht2) hx1 hx2 (fun _ _ => src_str l) (by simp) (by simp [bv, Value.oneCell']) (by omega) (by omega) (by omega) fun v' => by
    have := hi v'
    simpa [bytesA] using this
/-- append(xs, x): x lies in a block of its own -/
theorem ox_appR {e : TypeId} {sz bs : Nat} {t t2 e2 : TypeId} {z : Value} {v : Value} {n m b c : Nat} {tb : TypeId} {xs ys : List Value} {a1 a2 : Operand} {As' : Value → List HP} (j : Nat)
    (hu : sliceOf C.P t = some (e, sz, bs)) (hz : zeroOf C.P e = some z) (hzs : z.cells.size = sz) (ht2 : sliceOf C.P t2 = some (e2, sz, bs)) (hx1 : evo env a1 = some v) (hx2 : evo env a2 = some (.slice (some ⟨b, 0, none⟩) m c))
    (hj : As[j]? = some (row b tb ys)) (hy : ys.length = m * sz) (hone : (ys.all fun u => u.oneCell') = true) (hb : (n + m) * bs ≤ 2 ^ 40) (hbs : bs ≤ 2 ^ 20) (hn : n + m ≤ 2 ^ 40)
    (hi : ∀ v', Rep As (ownS e sz v n xs) (ownS e sz v' (n + m) (xs ++ ys)) (As' v')) : OpX C ds env As ⟨d, .call ⟨.builtin .append, #[a1, a2], #[t, t2]⟩, ty, pos, af, gd⟩ (n + m) As' :=
  ox_append hu hz hzs (.inr ⟨e2, (sliceOf_spec ht2).1⟩) hx1 hx2 (fun _ hs => src_cells hy fun k u hk => by rw [hs.cell j hj, Nat.zero_add]; exact hk) hy hone hb hbs hn hi
/-- the nil slice owns nothing: an owned slice to append to -/
theorem KW.newS {K : Act → World → Prop} (e : TypeId) (sz : Nat) (h : KW C ds K env (As ++ [ownS e sz (.slice none 0 0) 0 []])) : KW C ds K env As := by
  intro a w ha hs hw
  refine h a w ha ?_ hw
  obtain ⟨H, al⟩ := hs
  refine ⟨fun j => if j < As.length then H j else fun _ => none, fun j A hj => ?_, fun j k hj hk hjk => ?_, fun j hj => ?_⟩
  · by_cases q : j < As.length
    · rw [List.getElem?_append_left q] at hj; simp only [if_pos q]; exact al.ok j A hj
    · have hj' : j = As.length := by have := lt_of_get hj; simp at this; omega
      subst hj'; simp at hj; subst hj; exact ownS_nil e sz _
  · by_cases q : j < As.length
    · rw [if_pos q]
      by_cases q' : k < As.length
      · rw [if_pos q']; exact al.dj j k q q' hjk
      · rw [if_neg q']; exact fun _ => .inr rfl
    · rw [if_neg q]; exact fun _ => .inl rfl
  · by_cases q : j < As.length
    · rw [if_pos q]; exact al.inn j q
    · rw [if_neg q]; exact fun _ _ x => by cases x

/-- []byte(s) -/
theorem ox_s2b {t t' e : TypeId} {x : Operand} {l : List UInt8} {As' : Value → List HP} (hs1 : C.P.underlying t = some .string) (hu : sliceOf C.P t' = some (e, 1, 1)) (he : C.P.underlying e = some (.int .u8)) (hx : evo env x = some (S l))
    (hA : ∀ v, App As (bytesA e v l) (As' v)) : OpX C ds env As ⟨d, .convert t t' x, ty, pos, af, gd⟩ l.length As' := fun a w ha hs => by
  obtain ⟨h1, q, h2, h3, h4⟩ := sliceOf_spec hu
  simp only [S] at hx
  generalize hN : (Question.appendCap l.length 0 e).cut (w.tape w.drawn (.appendCap l.length 0 e)) = N
  have hNle : l.length ≤ N := by rw [← hN]; simp [Question.cut]
  let cells : List Value := l.map bv ++ List.replicate (N - l.length) (.int .u8 0)
  have hcl : cells.length = N := by simp [cells]; omega
  let w1 : World := { w with drawn := w.drawn + 1 }
  let w2 : World := { w1 with heap := w1.heap.push (.cells cells.toArray e) }
  let w3 : World := { w1 with heap := w1.heap.push (.cells cells.toArray e (N, N + 1)) }
  have hch : (choose (.appendCap l.length 0 e)).run C.P w = .ok N w1 := by rw [run_choose]; simp [Question.forced, hN, w1]
  have hel : (l.toArray.map fun b : UInt8 => Value.int .u8 b.toNat) ++ Array.replicate (N - l.length) (.int .u8 0) = cells.toArray := by
    apply Array.ext'; simp [cells, bv]
  have hfz : w2.freeze ⟨w.heap.size, N, none⟩ 1 = w3 := by
    have e1 : (w2.freeze ⟨w.heap.size, N, none⟩ 1).heap = w3.heap := by
      apply Array.ext_getElem?
      intro k
      simp only [World.freeze]
      rw [if_neg (by decide)]
      simp only [Array.getElem?_modify, w2, w3, w1, Array.getElem?_push]
      by_cases hk : w.heap.size = k
      · subst hk; simp
      · simp [hk, Ne.symm hk]
    have e0 : ∀ u v : World, u.heap = v.heap → u.tape = v.tape → u.drawn = v.drawn → u.os = v.os → u.output = v.output → u = v := by
      intro u v a1 a2 a3 a4 a5; cases u; cases v; simp_all
    refine e0 _ _ e1 ?_ ?_ ?_ ?_ <;> simp only [World.freeze] <;> rw [if_neg (by decide)]
  have hsh : w2.shape? w.heap.size = some (e, N) := by
    have : w2.heap[w.heap.size]? = some (.cells cells.toArray e) := pushNew w1 _
    simp [World.shape?, this, hcl]
  refine ⟨.slice (some ⟨w.heap.size, 0, none⟩) l.length N, _, w3, ⟨_, _, rfl, rfl⟩, .inl ?_, ?_, ⟨rfl, rfl, rfl⟩⟩
  · have hsz : (ByteArray.mk l.toArray).size = l.length := rfl
    simp only [execOp, ha.eval hx, convert, Sem.run_bind, run_underlying hs1, run_underlying h1, run_underlying he, Result.andThen_ok, Conv.stringToBytes, hsz, hch]
    rw [hel]
    simp only [newRow, run_newObj, Sem.run_bind, Sem.run_pure, Result.andThen_ok, markStringish, run_shape]
    have e2 : ({ w1 with heap := w1.heap.push (.cells cells.toArray e) } : World).shape? w1.heap.size = some (e, N) := hsh
    rw [e2]
    simp only [run_freeze, Result.andThen_ok, Sem.run_pure]
    have e3 : World.freeze { w1 with heap := w1.heap.push (.cells cells.toArray e) } ⟨w1.heap.size, N, none⟩ 1 = w3 := hfz
    rw [e3]
  · rw [← (hA _).spec]
    have h5 := (hs.keep (w' := w1) (fun _ _ => rfl)).rowPush (w' := w3) (t := e) (cs := cells) (fr := (N, N + 1)) (by intro i hi; rw [hcl] at hi; simp; omega) (pushNew w1 _) (pushOld w1 _)
    have h6 := h5.imp As.length (A := row w1.heap.size e cells) (B := bytesA e (.slice (some ⟨w.heap.size, 0, none⟩) l.length N) l) (by simp)
      (fun g' hg' => ⟨by simp, .inr ⟨w1.heap.size, N, List.replicate (N - l.length) (.int .u8 0), rfl, hNle, by simpa [cells] using hcl, hg'⟩⟩)
    simpa using h6
end
end Sx
end Go.Proofs.Ytkofbanncacamaa
