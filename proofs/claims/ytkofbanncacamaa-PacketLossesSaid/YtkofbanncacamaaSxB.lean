/- The code layer: symbolic slots, contracts with frames, rules for code and for regions (drawn or not). -/
import Derived.Test.YtkofbanncacamaaSxA
namespace Go.Proofs.Ytkofbanncacamaa
namespace Sx

structure Same (w w' : World) : Prop where
  os : w'.os = w.os
  tape : w'.tape = w.tape
  output : w'.output = w.output
theorem Same.refl (w : World) : Same w w := ⟨rfl, rfl, rfl⟩
theorem Same.trans {a b c : World} (h : Same a b) (k : Same b c) : Same a c := ⟨k.os.trans h.os, k.tape.trans h.tape, k.output.trans h.output⟩

abbrev Env := List (Nat × Value)
def alook : Env → Nat → Option Value
  | [], _ => none
  | (s, v) :: r, t => match Nat.beq s t with
    | true => some v
    | false => alook r t
theorem alook_cons (s : Nat) (v : Value) (r : Env) (t : Nat) : alook ((s, v) :: r) t = if s = t then some v else alook r t := by
  simp only [alook]
  by_cases e : s = t
  · subst e; simp
  · have : Nat.beq s t = false := by
      cases h : Nat.beq s t with
      | false => rfl
      | true => exact absurd (Nat.eq_of_beq_eq_true h) e
    simp [this, e]

structure EnvOk (N : Nat) (ds : List Deferred) (env : Env) (a : Act) : Prop where
  size : a.tmps.size = N
  defs : a.defers = ds
  slot : ∀ (t : Nat) (v : Value), alook env t = some v → a.tmps[t]? = some v

def evo (env : Env) : Operand → Option Value
  | .tmp t => alook env t
  | .const v => some v
  | .global g => some (.pointer (some ⟨g, 0, none⟩))
  | .func f => some (.func (.func f) #[] #[])
theorem EnvOk.eval {N : Nat} {ds : List Deferred} {env : Env} {a : Act} (h : EnvOk N ds env a) {x : Operand} {v : Value} (hx : evo env x = some v) : a.eval x = v := by
  cases x with
  | tmp t => have := h.slot t v hx; simp [Act.eval, this]
  | const c => simp only [evo, Option.some.injEq] at hx; exact hx
  | global g => simpa [evo, Act.eval] using hx
  | func f => simpa [evo, Act.eval] using hx

def evs (env : Env) : List Operand → Option (List Value)
  | [] => some []
  | x :: r => match evo env x, evs env r with
    | some v, some vs => some (v :: vs)
    | _, _ => none
theorem EnvOk.evals {N : Nat} {ds : List Deferred} {env : Env} {a : Act} (h : EnvOk N ds env a) : ∀ {xs : List Operand} {vs : List Value}, evs env xs = some vs → xs.map a.eval = vs := by
  intro xs; induction xs with
  | nil => intro vs e; simpa [evs] using e
  | cons x r ih =>
    intro vs e
    simp only [evs] at e
    split at e
    · rename_i v vs' h1 h2
      simp only [Option.some.injEq] at e; subst e
      simp [h.eval h1, ih h2]
    · cases e

def putE (d : Option Tmp) (v : Value) (env : Env) : Env := match d with
  | some t => (t, v) :: env
  | none => env
def dstOk (N : Nat) (d : Option Tmp) : Bool := match d with
  | some t => Nat.ble (t + 1) N
  | none => true
theorem EnvOk.put {N : Nat} {ds : List Deferred} {env : Env} {a : Act} (h : EnvOk N ds env a) {d : Option Tmp} (hd : dstOk N d = true) (v : Value) : EnvOk N ds (putE d v env) (a.put d v) := by
  cases d with
  | none => exact h
  | some t =>
    have ht : t < N := Nat.le_of_ble_eq_true hd
    refine ⟨by simp [Act.put, h.size], by simp [Act.put, h.defs], fun s u hs => ?_⟩
    simp only [putE, alook_cons] at hs
    by_cases e : t = s
    · subst e
      rw [if_pos rfl] at hs
      simp only [Option.some.injEq] at hs; subst hs
      simp [Act.put, h.size, ht]
    · rw [if_neg e] at hs
      simp only [Act.put, Array.getElem?_setIfInBounds_ne e]
      exact h.slot s u hs

def EnvSub : Env → Env → Prop
  | [], _ => True
  | (t, v) :: r, env => alook env t = some v ∧ EnvSub r env
theorem EnvOk.sub {N : Nat} {ds : List Deferred} {env : Env} {a : Act} (h : EnvOk N ds env a) : ∀ {env' : Env}, EnvSub env' env → EnvOk N ds env' a := by
  intro env'; induction env' with
  | nil => intro _; exact ⟨h.size, h.defs, fun t v e => by cases e⟩
  | cons p r ih =>
    intro hs
    obtain ⟨t, v⟩ := p
    refine ⟨h.size, h.defs, fun s u hu => ?_⟩
    rw [alook_cons] at hu
    by_cases e : t = s
    · subst e; rw [if_pos rfl] at hu; simp only [Option.some.injEq] at hu; subst hu; exact h.slot t v hs.1
    · rw [if_neg e] at hu; exact (ih hs.2).slot s u hu

structure Cx where
  P : Program
  w0 : World
  N : Nat

def KW (C : Cx) (ds : List Deferred) (K : Act → World → Prop) (env : Env) (As : List HP) : Prop :=
  ∀ (a : Act) (w : World), EnvOk C.N ds env a → Sat w As → Same C.w0 w → K a w
abbrev CW (C : Cx) (ds : List Deferred) (Q : Exit → Act → World → Prop) (c : Code) (env : Env) (As : List HP) : Prop := KW C ds (Code.wp C.P c Q) env As
abbrev LW (C : Cx) (ds : List Deferred) (ops : Array Oper) (Q : Exit → Act → World → Prop) (l : List Oper) (env : Env) (As : List HP) : Prop := KW C ds (wpList C.P ops Q l) env As

section
variable {C : Cx} {ds : List Deferred} {Q : Exit → Act → World → Prop} {env : Env} {As : List HP} {K : Act → World → Prop}

theorem KW.imp {K' : Act → World → Prop} (h : KW C ds K env As) (hk : ∀ a w, K a w → K' a w) : KW C ds K' env As := fun a w x y z => hk _ _ (h a w x y z)

/-- Forget slots, drop and reorder atoms. -/
theorem KW.weak (env' : Env) (is : List Nat) (As' : List HP) (hsub : EnvSub env' env) (hok : okIdx is As.length = true) (hp : picks is As = As') (h : KW C ds K env' As') : KW C ds K env As :=
  fun a w ha hs hw => h a w (ha.sub hsub) (hp ▸ hs.picks is hok) hw
/-- Turn the atoms. -/
theorem KW.turn {As' : List HP} (ht : ∀ w, Sat w As → Sat w As') (h : KW C ds K env As') : KW C ds K env As := fun a w ha hs hw => h a w ha (ht w hs) hw
theorem KW.turnEx {α : Type} {A : α → HP} (i : Nat) (hi : As[i]? = some (Ex A)) (h : ∀ x, KW C ds K env (As.set i (A x))) : KW C ds K env As :=
  fun a w ha hs hw => let ⟨x, hx⟩ := hs.getEx1 i hi; h x a w ha hx hw
theorem KW.turnPu {p : Prop} {A : HP} (i : Nat) (hi : As[i]? = some (Pu p A)) (h : p → KW C ds K env (As.set i A)) : KW C ds K env As :=
  fun a w ha hs hw => let ⟨x, hx⟩ := hs.getPu i hi; h x a w ha hx hw
theorem KW.take {A : HP} (i : Nat) (hi : As[i]? = some A) (h : ∀ g, A g → KW C ds K env (As.set i (ex g))) : KW C ds K env As :=
  fun a w ha hs hw => let ⟨g, hg, hx⟩ := hs.take i hi; h g hg a w ha hx hw
/-- A fact that the atoms give. -/
theorem KW.fact {p : Prop} (hp : ∀ w, Sat w As → p) (h : p → KW C ds K env As) : KW C ds K env As := fun a w ha hs hw => h (hp w hs) a w ha hs hw
theorem KW.ne (i j : Nat) {b b' : Nat} {o o' : Obj} (hi : As[i]? = some (pts b o)) (hj : As[j]? = some (pts b' o')) (hij : i ≠ j) (h : b ≠ b' → KW C ds K env As) : KW C ds K env As :=
  KW.fact (fun _ hs => hs.ne i j hi hj hij) h

theorem CW.skip (h : KW C ds (Q .normal) env As) : CW C ds Q .skip env As := h.imp fun _ _ => wp_skip
theorem CW.label {l : Nat} (h : KW C ds (Q .normal) env As) : CW C ds Q (.label l) env As := h.imp fun _ _ => wp_label
theorem CW.ret (h : KW C ds (Q .ret) env As) : CW C ds Q .ret env As := h.imp fun _ _ => wp_ret
theorem CW.exit {id : Nat} (h : KW C ds (Q (.exit id)) env As) : CW C ds Q (.exit id) env As := h.imp fun _ _ => wp_exit
theorem CW.goto {l : Nat} (h : KW C ds (Q (.goto l)) env As) : CW C ds Q (.goto l) env As := h.imp fun _ _ => wp_goto
theorem CW.seq {x y : Code} (h : CW C ds (Exit.then (Code.wp C.P y Q) Q) x env As) : CW C ds Q (.seq x y) env As := h.imp fun _ _ => wp_seq
theorem CW.block {id : Nat} {c : Code} (h : CW C ds (Exit.inBlock id Q) c env As) : CW C ds Q (.block id c) env As := h.imp fun _ _ => wp_block
theorem CW.cond {c : Operand} {x y : Code} {b : Bool} (hc : evo env c = some (.bool b)) (ht : b = true → CW C ds Q x env As) (hf : b = false → CW C ds Q y env As) : CW C ds Q (.cond c x y) env As :=
  fun a w ha hs hw => wp_cond_split (ha.eval hc) (fun e => ht e a w ha hs hw) (fun e => hf e a w ha hs hw)
theorem CW.condT {c : Operand} {x y : Code} {b : Bool} (hc : evo env c = some (.bool b)) (hb : b = true) (h : CW C ds Q x env As) : CW C ds Q (.cond c x y) env As :=
  CW.cond hc (fun _ => h) (fun e => by rw [hb] at e; cases e)
theorem CW.condF {c : Operand} {x y : Code} {b : Bool} (hc : evo env c = some (.bool b)) (hb : b = false) (h : CW C ds Q y env As) : CW C ds Q (.cond c x y) env As :=
  CW.cond hc (fun e => by rw [hb] at e; cases e) (fun _ => h)
theorem CW.condD {c : Operand} {x y : Code} {p : Prop} {dp : Decidable p} (hc : evo env c = some (.bool (@decide p dp))) (ht : p → CW C ds Q x env As) (hf : ¬p → CW C ds Q y env As) : CW C ds Q (.cond c x y) env As :=
  CW.cond hc (fun e => ht (of_decide_eq_true e)) (fun e => hf (of_decide_eq_false e))

theorem KW.thenN {M : Act → World → Prop} (h : KW C ds M env As) : KW C ds (Exit.then M Q .normal) env As := h
theorem KW.thenX {M : Act → World → Prop} {id : Nat} (h : KW C ds (Q (.exit id)) env As) : KW C ds (Exit.then M Q (.exit id)) env As := h
theorem KW.thenR {M : Act → World → Prop} (h : KW C ds (Q .ret) env As) : KW C ds (Exit.then M Q .ret) env As := h
theorem KW.thenP {M : Act → World → Prop} {ch : List PanicEntry} (h : KW C ds (Q (.panic ch)) env As) : KW C ds (Exit.then M Q (.panic ch)) env As := h
theorem KW.blockN {id : Nat} (h : KW C ds (Q .normal) env As) : KW C ds (Exit.inBlock id Q .normal) env As := h
theorem KW.blockR {id : Nat} (h : KW C ds (Q .ret) env As) : KW C ds (Exit.inBlock id Q .ret) env As := h
theorem KW.blockP {id : Nat} {ch : List PanicEntry} (h : KW C ds (Q (.panic ch)) env As) : KW C ds (Exit.inBlock id Q (.panic ch)) env As := h
theorem KW.hit {id : Nat} (h : KW C ds (Q .normal) env As) : KW C ds (Exit.inBlock id Q (.exit id)) env As := h.imp fun a w x => by simpa [Exit.inBlock] using x
theorem KW.miss {id id' : Nat} (hne : Nat.beq id' id = false) (h : KW C ds (Q (.exit id')) env As) : KW C ds (Exit.inBlock id Q (.exit id')) env As := h.imp fun a w x => by
  have hne' : id' ≠ id := Nat.ne_of_beq_eq_false hne
  simpa [Exit.inBlock, hne'] using x

/-- Ways meet. -/
theorem CW.cut {x y : Code} (J : Env → List HP → Prop) (h1 : ∀ M : Act → World → Prop, (∀ env As, J env As → KW C ds M env As) → CW C ds (Exit.then M Q) x env As)
    (h2 : ∀ env As, J env As → CW C ds Q y env As) : CW C ds Q (.seq x y) env As := CW.seq (h1 _ h2)

theorem KW.meet {M : Act → World → Prop} {J : Env → List HP → Prop} {env' : Env} {As' : List HP} (is : List Nat) (hM : ∀ env As, J env As → KW C ds M env As) (hJ : J env' As') (hsub : EnvSub env' env) (hok : okIdx is As.length = true) (hp : picks is As = As') : KW C ds M env As :=
  KW.weak env' is As' hsub hok hp (hM _ _ hJ)
/-- A loop: I n: what holds at a round's head; n goes down. -/
def Again (C : Cx) (ds : List Deferred) (I : Nat → Env → List HP → Prop) (n : Nat) : Act → World → Prop := fun a w =>
  ∃ (m : Nat) (env' : Env) (As' : List HP), m < n ∧ I m env' As' ∧ EnvOk C.N ds env' a ∧ Sat w As' ∧ Same C.w0 w
theorem CW.loop {c : Code} (I : Nat → Env → List HP → Prop) (n0 : Nat) (h0 : I n0 env As)
    (round : ∀ n env As, I n env As → CW C ds (Exit.then (Again C ds I n) Q) c env As) : CW C ds Q (.loop c) env As := by
  intro a w ha hs hw b k cs
  have key : ∀ n env As a w, I n env As → EnvOk C.N ds env a → Sat w As → Same C.w0 w →
      ∃ e a' w', Q e a' w' ∧ Arrives C.P (lone (b.at a (.code c :: .inLoop c :: k)) cs w) b k cs e a' w' := by
    intro n
    induction n using Nat.strongRecOn with
    | _ n ih =>
      intro env As a w hI ha hs hw
      obtain ⟨e, a₁, w₁, hq, harr⟩ := round n env As hI a w ha hs hw b (.inLoop c :: k) cs
      cases e with
      | normal =>
        obtain ⟨m, env', As', hlt, hI', ha', hs', hw'⟩ := hq
        obtain ⟨e₂, a₂, w₂, hq₂, harr₂⟩ := ih m hlt env' As' a₁ w₁ hI' ha' hs' hw'
        exact ⟨e₂, a₂, w₂, hq₂, .of_steps (Steps.trans harr (.one step_inLoop)) harr₂⟩
      | exit id => exact ⟨_, a₁, w₁, hq, .pass (x := .inLoop c) rfl (fun _ _ => .inl (by simp)) harr⟩
      | goto l => exact ⟨_, a₁, w₁, hq, .pass (x := .inLoop c) rfl (fun _ _ => .inl (by simp)) harr⟩
      | ret => exact ⟨_, a₁, w₁, hq, .pass (x := .inLoop c) rfl (fun _ _ => .inl (by simp)) harr⟩
      | panic ch => exact ⟨_, a₁, w₁, hq, .pass (x := .inLoop c) rfl (fun _ _ => .inl (by simp)) harr⟩
      | outgrown => exact ⟨_, a₁, w₁, hq, .pass (x := .inLoop c) rfl (fun _ _ => .inl (by simp)) harr⟩
  obtain ⟨e, a', w', hq, harr⟩ := key _ env As a w h0 ha hs hw
  exact ⟨e, a', w', hq, .of_steps (.one step_loop) harr⟩
theorem CW.loopW {c : Code} (I : Nat → Env → List HP → Prop) (n0 : Nat) (is : List Nat) {env' : Env} {As' : List HP} (h0 : I n0 env' As') (hsub : EnvSub env' env) (hok : okIdx is As.length = true) (hp : picks is As = As')
    (round : ∀ n env As, I n env As → CW C ds (Exit.then (Again C ds I n) Q) c env As) : CW C ds Q (.loop c) env As := KW.weak env' is As' hsub hok hp (CW.loop I n0 h0 round)
theorem KW.again {I : Nat → Env → List HP → Prop} {n : Nat} {env' : Env} {As' : List HP} (m : Nat) (is : List Nat) (hm : m < n) (hI : I m env' As') (hsub : EnvSub env' env) (hok : okIdx is As.length = true) (hp : picks is As = As') :
    KW C ds (Again C ds I n) env As := fun a w ha hs hw => ⟨m, env', As', hm, hI, ha.sub hsub, hp ▸ hs.picks is hok, hw⟩

/-! ### Operations -/
/-- The operation yields v and turns nothing. -/
def OpV (C : Cx) (ds : List Deferred) (env : Env) (As : List HP) (o : Oper) (v : Value) : Prop :=
  ∀ (a : Act) (w : World), EnvOk C.N ds env a → Sat w As → (execOp a.eval o).run C.P w = .ok (.value v) w
/-- The operation yields some value and leaves some atoms: R tells which. -/
def OpR (C : Cx) (ds : List Deferred) (env : Env) (As : List HP) (o : Oper) (R : Value → List HP → Prop) : Prop :=
  ∀ (a : Act) (w : World), EnvOk C.N ds env a → Sat w As → ∃ v As' w', R v As' ∧ ((execOp a.eval o).run C.P w = .ok (.value v) w' ∨ ((execOp a.eval o).run C.P w = .ok .skip w' ∧ v = undef)) ∧ Sat w' As' ∧ Same w w'
def OpU (C : Cx) (ds : List Deferred) (env : Env) (As : List HP) (o : Oper) (v : Value) (As' : List HP) : Prop := OpR C ds env As o fun u B => u = v ∧ B = As'
def OpB (C : Cx) (ds : List Deferred) (env : Env) (As : List HP) (o : Oper) (f : Nat → Value) (A : Nat → HP) : Prop := OpR C ds env As o fun u B => ∃ b, u = f b ∧ B = As ++ [A b]

def wantedE (ops : Array Oper) (env : Env) (o : Oper) : Option Bool := match o.guard with
  | none => some true
  | some (j, want) => match ((ops[j]?).bind (·.dst)).bind (alook env) with
    | some (.bool b) => some (b == want)
    | some (.tuple _) => some false
    | _ => none
theorem EnvOk.wanted {N : Nat} {env : Env} {a : Act} (h : EnvOk N ds env a) {ops : Array Oper} {o : Oper} {b : Bool} (hg : wantedE ops env o = some b) : Region.wanted o (yielded ops a.tmps) = b := by
  unfold wantedE at hg
  unfold Region.wanted
  split at hg
  · rename_i e; simp only [e, Option.some.injEq] at hg ⊢; exact hg
  · rename_i j want e
    simp only [e]
    unfold yielded
    cases ht : (ops[j]?).bind (·.dst) with
    | none => rw [ht] at hg; simp at hg
    | some t =>
      rw [ht] at hg
      simp only [Option.bind_some] at hg ⊢
      split at hg
      · rename_i c hc
        rw [h.slot t _ hc]
        simp only [Option.some.injEq] at hg
        rw [← hg]; cases c <;> cases want <;> rfl
      · rename_i c hc
        rw [h.slot t _ hc]
        simp only [Option.some.injEq] at hg
        rw [← hg]; cases want <;> rfl
      · cases hg

variable {ops : Array Oper} {o : Oper} {rest : List Oper}

theorem CW.region {id : Nat} {l : List Oper} (h : LW C ds l.toArray Q l env As) : CW C ds Q (.region id l.toArray false) env As := h.imp fun _ _ => wp_region_lit
theorem LW.nil (h : KW C ds (Q .normal) env As) : LW C ds ops Q [] env As := h

theorem LW.opR {R : Value → List HP → Prop} (hr : OpR C ds env As o R) (hg : wantedE ops env o = some true) (hd : dstOk C.N o.dst = true)
    (h : ∀ v As', R v As' → LW C ds ops Q rest (putE o.dst v env) As') : LW C ds ops Q (o :: rest) env As := by
  intro a w ha hs hw
  obtain ⟨v, As', w', hR, hrun, hs', hsame⟩ := hr a w ha hs
  have hk := h v As' hR (a.put o.dst v) w' (ha.put hd v) hs' (hw.trans hsame)
  unfold wpList
  rw [if_pos (ha.wanted hg)]
  left
  unfold Oper.wp
  rcases hrun with e | ⟨e, rfl⟩
  · rw [e]; exact hk
  · rw [e]; exact hk
variable {op : Op} {dt : Tmp} {ty : TypeId} {pos : String} {af : Array Edge} {gd : Option (Nat × Bool)}
theorem LW.opV {v : Value} (hv : OpV C ds env As ⟨some dt, op, ty, pos, af, gd⟩ v) (hg : wantedE ops env ⟨some dt, op, ty, pos, af, gd⟩ = some true) (hd : Nat.ble (dt + 1) C.N = true)
    (h : LW C ds ops Q rest ((dt, v) :: env) As) : LW C ds ops Q (⟨some dt, op, ty, pos, af, gd⟩ :: rest) env As :=
  LW.opR (R := fun u B => u = v ∧ B = As) (fun a w ha hs => ⟨v, As, w, ⟨rfl, rfl⟩, .inl (hv a w ha hs), hs, Same.refl w⟩) hg hd (by rintro _ _ ⟨rfl, rfl⟩; exact h)
theorem LW.opU {v : Value} {As' : List HP} (hv : OpU C ds env As ⟨none, op, ty, pos, af, gd⟩ v As') (hg : wantedE ops env ⟨none, op, ty, pos, af, gd⟩ = some true)
    (h : LW C ds ops Q rest env As') : LW C ds ops Q (⟨none, op, ty, pos, af, gd⟩ :: rest) env As := LW.opR hv hg rfl (by rintro _ _ ⟨rfl, rfl⟩; exact h)
theorem LW.skip (hg : wantedE ops env ⟨some dt, op, ty, pos, af, gd⟩ = some false) (hd : Nat.ble (dt + 1) C.N = true) (h : LW C ds ops Q rest ((dt, undef) :: env) As) : LW C ds ops Q (⟨some dt, op, ty, pos, af, gd⟩ :: rest) env As := by
  intro a w ha hs hw
  unfold wpList
  rw [if_neg (by rw [ha.wanted hg]; simp)]
  exact h _ w (ha.put (d := some dt) hd undef) hs hw
theorem LW.skipN (hg : wantedE ops env ⟨none, op, ty, pos, af, gd⟩ = some false) (h : LW C ds ops Q rest env As) : LW C ds ops Q (⟨none, op, ty, pos, af, gd⟩ :: rest) env As := by
  intro a w ha hs hw
  unfold wpList
  rw [if_neg (by rw [ha.wanted hg]; simp)]
  exact h _ w (ha.put (d := none) rfl undef) hs hw
theorem EnvOk.cons {N : Nat} {a : Act} (h : EnvOk N ds env a) {t : Nat} {v : Value} (hv : alook env t = some v) : EnvOk N ds ((t, v) :: env) a :=
  ⟨h.size, h.defs, fun s u hu => by
    rw [alook_cons] at hu
    by_cases e : t = s
    · subst e; rw [if_pos rfl] at hu; simp only [Option.some.injEq] at hu; subst hu; exact h.slot t v hv
    · rw [if_neg e] at hu; exact h.slot s u hu⟩
/-- Part on what a slot holds. -/
theorem KW.split (t : Nat) {b : Bool} (hb : alook env t = some (.bool b)) (ht : b = true → KW C ds K ((t, .bool true) :: env) As) (hf : b = false → KW C ds K ((t, .bool false) :: env) As) : KW C ds K env As := by
  intro a w ha hs hw
  cases b with
  | true => exact ht rfl a w (ha.cons hb) hs hw
  | false => exact hf rfl a w (ha.cons hb) hs hw
theorem KW.splitD (t : Nat) {p : Prop} {dp : Decidable p} (hb : alook env t = some (.bool (@decide p dp))) (ht : p → KW C ds K ((t, .bool true) :: env) As) (hf : ¬p → KW C ds K ((t, .bool false) :: env) As) : KW C ds K env As :=
  KW.split t hb (fun e => ht (of_decide_eq_true e)) (fun e => hf (of_decide_eq_false e))
/-- A slot's value, said otherwise. -/
theorem KW.re (t : Nat) {v v' : Value} (hv : alook env t = some v) (e : v = v') (h : KW C ds K ((t, v') :: env) As) : KW C ds K env As := by
  subst e; exact fun a w ha hs hw => h a w (ha.cons hv) hs hw

/-! ### Contracts -/
def Fn (P : Program) (f : FuncId) (args : Array Value) (pre : List HP) (post : Ending → List HP → Prop) : Prop :=
  ∀ (w : World) (hf : Hl), Sat w (ex hf :: pre) → Calls P f args w fun e w' => ∃ Q, post e Q ∧ Sat w' (ex hf :: Q) ∧ Same w w'
def Ret (post : Value → List HP → Prop) : Ending → List HP → Prop
  | .returned v, Q => post v Q
  | _, _ => False
def FnPost (post : Ending → List HP → Prop) (w : World) (hf : Hl) : Ending → World → Prop := fun e w' => ∃ Q, post e Q ∧ Sat w' (ex hf :: Q) ∧ Same w w'
theorem Fn.mono {P : Program} {f : FuncId} {args : Array Value} {pre : List HP} {post post' : Ending → List HP → Prop} (h : Fn P f args pre post) (hp : ∀ e Q, post e Q → post' e Q) : Fn P f args pre post' :=
  fun w hf hs => (h w hf hs).mono fun e _ ⟨Q, hq, r⟩ => ⟨Q, hp e Q hq, r⟩

def argE : List Value → Nat → Env
  | [], _ => []
  | v :: r, n => (n, v) :: argE r (n + 1)
theorem alook_argE : ∀ (l : List Value) (n t : Nat) (v : Value), alook (argE l n) t = some v → n ≤ t ∧ l[t - n]? = some v := by
  intro l; induction l with
  | nil => intro n t v h; cases h
  | cons x r ih =>
    intro n t v h
    rw [argE, alook_cons] at h
    by_cases e : n = t
    · subst e; rw [if_pos rfl] at h; simpa using h
    · rw [if_neg e] at h
      obtain ⟨h1, h2⟩ := ih (n + 1) t v h
      refine ⟨by omega, ?_⟩
      rw [show t - n = (t - (n + 1)) + 1 from by omega, List.getElem?_cons_succ]; exact h2

theorem Fn.of {P : Program} {f : FuncId} {fn : Func} {c : Code} {N : Nat} {args : List Value} {pre : List HP} {post : Ending → List HP → Prop}
    (hf : P.funcs[f]? = some fn) (hb : fn.body = some c) (hN : fn.ntmps = N) (hn : Nat.ble args.length N = true)
    (h : ∀ (w : World) (g : Hl), CW ⟨P, w, N⟩ [] (bodyPost P fn (FnPost post w g)) c (argE args 0) (ex g :: pre)) : Fn P f args.toArray pre post := by
  intro w g hs
  have hle : args.length ≤ N := Nat.le_of_ble_eq_true hn
  refine calls_of_wp hf hb (h w g _ w ⟨?_, rfl, fun t v ht => ?_⟩ hs (Same.refl w))
  · simp [hN]; omega
  · obtain ⟨_, h2⟩ := alook_argE args 0 t v ht
    have hl := lt_of_get h2
    simp only [Nat.sub_zero] at h2 hl
    rw [Array.getElem?_append_left (by simpa using hl)]
    simpa using h2

theorem callUpon {f : FuncId} {args : Array Value} {a : Act} {w : World} {M : Act → World → Prop} {post : Ending → List HP → Prop} (is : List Nat) (hok : okIdx is As.length = true) (hF : Fn C.P f args (picks is As) post)
    (ha : EnvOk C.N ds env a) (hs : Sat w As) (hw : Same C.w0 w) (hd : dstOk C.N o.dst = true)
    (hn : ∀ v Q', post (.returned v) Q' → KW C ds M (putE o.dst v env) (putBack is Q' As)) (hp : ∀ ch Q', post (.panicked ch) Q' → KW C ds (Q (.panic ch)) env (putBack is Q' As)) (ho : ∀ Q', ¬ post .outgrown Q') :
    o.upon C.P a M Q (.ok (.enter f args) w) := by
  rw [Oper.upon_enter]
  obtain ⟨g, hs', hback⟩ := hs.lend is hok
  refine (hF w g hs').mono ?_
  rintro e w' ⟨Q', hpost, hs2, hsame⟩
  cases e with
  | returned v => exact hn v Q' hpost (a.put o.dst v) w' (ha.put hd v) (hback w' Q' hs2) (hw.trans hsame)
  | panicked ch => exact hp ch Q' hpost a w' ha (hback w' Q' hs2) (hw.trans hsame)
  | outgrown => exact (ho Q' hpost).elim

/-- The operation is a call of f. -/
def OpC (C : Cx) (ds : List Deferred) (env : Env) (As : List HP) (o : Oper) (f : FuncId) (args : Array Value) : Prop :=
  ∀ (a : Act) (w : World), EnvOk C.N ds env a → Sat w As → (execOp a.eval o).run C.P w = .ok (.enter f args) w

theorem LW.callE {f : FuncId} {args : Array Value} {post : Ending → List HP → Prop} (is : List Nat) (hc : OpC C ds env As o f args) (hg : wantedE ops env o = some true) (hd : dstOk C.N o.dst = true)
    (hok : okIdx is As.length = true) {pre : List HP} (hp : picks is As = pre) (hF : Fn C.P f args pre post)
    (ho : ∀ Q', ¬ post .outgrown Q') (hpan : ∀ ch Q', post (.panicked ch) Q' → KW C ds (Q (.panic ch)) env (putBack is Q' As))
    (hn : ∀ v Q', post (.returned v) Q' → LW C ds ops Q rest (putE o.dst v env) (putBack is Q' As)) : LW C ds ops Q (o :: rest) env As := by
  subst hp
  intro a w ha hs hw
  unfold wpList
  rw [if_pos (ha.wanted hg)]
  left
  unfold Oper.wp
  rw [hc a w ha hs]
  exact callUpon is hok hF ha hs hw hd hn hpan ho
theorem LW.call {f : FuncId} {args : Array Value} {post : Value → List HP → Prop} (is : List Nat) (hc : OpC C ds env As ⟨some dt, op, ty, pos, af, gd⟩ f args) (hg : wantedE ops env ⟨some dt, op, ty, pos, af, gd⟩ = some true) (hd : Nat.ble (dt + 1) C.N = true)
    (hok : okIdx is As.length = true) {pre : List HP} (hp : picks is As = pre) (hF : Fn C.P f args pre (Ret post))
    (hn : ∀ v Q', post v Q' → LW C ds ops Q rest ((dt, v) :: env) (putBack is Q' As)) : LW C ds ops Q (⟨some dt, op, ty, pos, af, gd⟩ :: rest) env As :=
  LW.callE is hc hg hd hok hp hF (fun _ h => h) (fun _ _ h => h.elim) hn

/-! ### The end of a function -/
def resF (tmps : Array Value) : ResultVar → Sem Value
  | .tmp t => pure (tmps.getD t undef)
  | .cell a t => do loadVar t (← asAddr (tmps.getD a undef))
def ResV (C : Cx) (ds : List Deferred) (env : Env) (As : List HP) (r : ResultVar) (v : Value) : Prop :=
  ∀ (a : Act) (w : World), EnvOk C.N ds env a → Sat w As → (resF a.tmps r).run C.P w = .ok v w
theorem ResV.tmp {t : Nat} {v : Value} (h : alook env t = some v) : ResV C ds env As (.tmp t) v := fun a w ha _ => by
  have := ha.slot t v h
  simp [resF, this]

inductive ResL (C : Cx) (ds : List Deferred) (env : Env) (As : List HP) : List ResultVar → List Value → Prop
  | nil : ResL C ds env As [] []
  | cons {r : ResultVar} {rs : List ResultVar} {v : Value} {vs : List Value} : ResV C ds env As r v → ResL C ds env As rs vs → ResL C ds env As (r :: rs) (v :: vs)
def packV : List Value → Value
  | [v] => v
  | vs => .tuple vs.toArray

theorem results_run {fn : Func} {vs : List Value} (h : ResL C ds env As fn.results.toList vs) {a : Act} {w : World} (ha : EnvOk C.N ds env a) (hs : Sat w As) :
    (results fn a.tmps).run C.P w = .ok (packV vs) w := by
  have key : ∀ {rs : List ResultVar} {vs : List Value}, ResL C ds env As rs vs → Sem.run C.P (rs.mapM (resF a.tmps)) w = Result.ok vs w := by
    intro rs vs h
    induction h with
    | nil => simp
    | cons hv _ ih => rw [List.mapM_cons, Sem.run_bind, hv a w ha hs]; simp [ih]
  have e : results fn a.tmps = (do let vs ← fn.results.mapM (resF a.tmps); pure (if h : vs.size = 1 then vs[0] else .tuple vs)) := rfl
  rw [e, Array.mapM_eq_mapM_toList, Sem.run_bind, Sem.run_map, key h]
  simp only [Result.andThen_ok, Sem.run_pure]
  congr 1
  match vs with
  | [] => rfl
  | [v] => rfl
  | v :: u :: r => simp [packV]

theorem KW.retE {fn : Func} {R : Ending → World → Prop} {vs : List Value} (hr : ResL C [] env As fn.results.toList vs)
    (hR : ∀ w, Sat w As → Same C.w0 w → R (.returned (packV vs)) w) : KW C [] (bodyPost C.P fn R .ret) env As :=
  fun a w ha hs hw => bodyPost_ret (results_run hr ha hs) ha.defs (hR w hs hw)
theorem KW.endE {fn : Func} {R : Ending → World → Prop} {vs : List Value} (hr : ResL C [] env As fn.results.toList vs)
    (hR : ∀ w, Sat w As → Same C.w0 w → R (.returned (packV vs)) w) : KW C [] (bodyPost C.P fn R .normal) env As :=
  fun a w ha hs hw => bodyPost_end (results_run hr ha hs) ha.defs (hR w hs hw)
/-- A return: which atoms are handed back (the frame, number 0, is among them by itself). -/
theorem KW.retF {fn : Func} {post : Ending → List HP → Prop} {g : Hl} {vs : List Value} {Q' : List HP} (hr : ResL C [] env As fn.results.toList vs) (is : List Nat)
    (hok : okIdx (0 :: is) As.length = true) (hp : picks (0 :: is) As = ex g :: Q') (hq : post (.returned (packV vs)) Q') : KW C [] (bodyPost C.P fn (FnPost post C.w0 g) .ret) env As :=
  KW.retE hr fun _ hs hw => ⟨Q', hq, hp ▸ hs.picks _ hok, hw⟩
theorem KW.endF {fn : Func} {post : Ending → List HP → Prop} {g : Hl} {vs : List Value} {Q' : List HP} (hr : ResL C [] env As fn.results.toList vs) (is : List Nat)
    (hok : okIdx (0 :: is) As.length = true) (hp : picks (0 :: is) As = ex g :: Q') (hq : post (.returned (packV vs)) Q') : KW C [] (bodyPost C.P fn (FnPost post C.w0 g) .normal) env As :=
  KW.endE hr fun _ hs hw => ⟨Q', hq, hp ▸ hs.picks _ hok, hw⟩
theorem KW.panF {fn : Func} {post : Ending → List HP → Prop} {g : Hl} {ch : List PanicEntry} {Q' : List HP} (is : List Nat)
    (hok : okIdx (0 :: is) As.length = true) (hp : picks (0 :: is) As = ex g :: Q') (hq : post (.panicked ch) Q') : KW C [] (bodyPost C.P fn (FnPost post C.w0 g) (.panic ch)) env As :=
  fun _ w ha hs hw => ⟨ha.defs, Q', hq, hp ▸ hs.picks _ hok, hw⟩

/-! ### A region that draws its order -/
def DW (C : Cx) (ds : List Deferred) (ops : Array Oper) (Q : Exit → Act → World → Prop) (Bs : List HP) (fuel : Nat) (listed : Array Bool) (env : Env) (As : List HP) : Prop :=
  KW C ds (wpAnyH C.P .any ops Q (fun w => Sat w Bs) fuel listed) env As

theorem CW.draw {id : Nat} {l : List Oper} (js : List Nat) {Bs : List HP} (hB : picks js As = Bs) (hm : C.P.follows .mixedOrders = true) {n : Nat} (hn : l.length = n) {ls : Array Bool} (hls : Array.replicate n false = ls)
    (h : DW C ds l.toArray Q Bs n ls env As) : CW C ds Q (.region id l.toArray true) env As := by
  subst hn; subst hls
  intro a w ha hs hw
  refine wp_region_held (S := fun w => Sat w Bs) hm ?_
  rw [List.size_toArray]
  exact h a { w with drawn := w.drawn + 1 } ha (hs.keep fun _ _ => rfl) ⟨hw.os, hw.tape, hw.output⟩

theorem DW.take {Bs : List HP} {fuel : Nat} {listed l' : Array Bool} (i : Nat) {v : Value} (js : List Nat) (hi : ops[i]? = some ⟨some dt, op, ty, pos, af, gd⟩) (hns : Region.noSelect ops = true) (hf : Region.free .any ops listed i = true) (hr : (Region.ready .any ops listed).contains i = true)
    (hQ : ∀ c a w, Q (.panic c) (a.put (some dt) v) w → Q (.panic c) a w) (hv : OpV C ds env Bs ⟨some dt, op, ty, pos, af, gd⟩ v) (hg : wantedE ops env ⟨some dt, op, ty, pos, af, gd⟩ = some true) (hd : Nat.ble (dt + 1) C.N = true)
    (hok : okIdx js As.length = true) (hB : picks js As = Bs) (hl : listed.setIfInBounds i true = l') (h : DW C ds ops Q Bs fuel l' ((dt, v) :: env) As) : DW C ds ops Q Bs (fuel + 1) listed env As := by
  subst hl
  intro a w ha hs hw
  refine wpAnyH_take hi hns hf hr hQ (v := v) (.inl ⟨ha.wanted hg, fun w' hs' => hv a w' ha hs'⟩) (hB ▸ hs.picks js hok) ?_
  exact h _ w (ha.put (d := some dt) hd v) hs hw
theorem DW.skip {Bs : List HP} {fuel : Nat} {listed l' : Array Bool} (i : Nat) (js : List Nat) (hi : ops[i]? = some ⟨some dt, op, ty, pos, af, gd⟩) (hns : Region.noSelect ops = true) (hf : Region.free .any ops listed i = true) (hr : (Region.ready .any ops listed).contains i = true)
    (hQ : ∀ c a w, Q (.panic c) (a.put (some dt) undef) w → Q (.panic c) a w) (hg : wantedE ops env ⟨some dt, op, ty, pos, af, gd⟩ = some false) (hd : Nat.ble (dt + 1) C.N = true)
    (hok : okIdx js As.length = true) (hB : picks js As = Bs) (hl : listed.setIfInBounds i true = l') (h : DW C ds ops Q Bs fuel l' ((dt, undef) :: env) As) : DW C ds ops Q Bs (fuel + 1) listed env As := by
  subst hl
  intro a w ha hs hw
  refine wpAnyH_take hi hns hf hr hQ (v := undef) (.inr ⟨ha.wanted hg, rfl⟩) (hB ▸ hs.picks js hok) ?_
  exact h _ w (ha.put (d := some dt) hd undef) hs hw
theorem DW.done {Bs : List HP} {fuel : Nat} {listed : Array Bool} (hr : Region.ready .any ops listed = []) (h : KW C ds (Q .normal) env As) : DW C ds ops Q Bs fuel listed env As :=
  h.imp fun _ _ x => wpAnyH_done hr x _

/-- Operation number i comes up. -/
def DO (C : Cx) (ds : List Deferred) (ops : Array Oper) (Q : Exit → Act → World → Prop) (Bs : List HP) (fuel : Nat) (listed : Array Bool) (i : Nat) (env : Env) (As : List HP) : Prop :=
  KW C ds (wpOp C.P ops Q i (fun a' w' => Sat w' Bs ∧ wpAnyH C.P .any ops Q (fun w => Sat w Bs) fuel (listed.setIfInBounds i true) a' w')) env As
theorem DW.all {Bs : List HP} {fuel : Nat} {listed : Array Bool} (rs : List Nat) (hr : Region.ready .any ops listed = rs) (hne : rs ≠ []) (h : ∀ i ∈ rs, DO C ds ops Q Bs fuel listed i env As) : DW C ds ops Q Bs (fuel + 1) listed env As :=
  fun a w ha hs hw => wpAnyH_all hr hne fun i hi => h i hi a w ha hs hw
theorem DW.all1 {Bs : List HP} {fuel : Nat} {listed : Array Bool} (i : Nat) (hr : Region.ready .any ops listed = [i]) (h : DO C ds ops Q Bs fuel listed i env As) : DW C ds ops Q Bs (fuel + 1) listed env As :=
  DW.all [i] hr (by simp) (by simpa using h)
theorem DW.all2 {Bs : List HP} {fuel : Nat} {listed : Array Bool} (i j : Nat) (hr : Region.ready .any ops listed = [i, j]) (h : DO C ds ops Q Bs fuel listed i env As) (h' : DO C ds ops Q Bs fuel listed j env As) : DW C ds ops Q Bs (fuel + 1) listed env As :=
  DW.all [i, j] hr (by simp) (by simpa using ⟨h, h'⟩)
theorem DW.all3 {Bs : List HP} {fuel : Nat} {listed : Array Bool} (i j k : Nat) (hr : Region.ready .any ops listed = [i, j, k]) (h : DO C ds ops Q Bs fuel listed i env As) (h' : DO C ds ops Q Bs fuel listed j env As) (h'' : DO C ds ops Q Bs fuel listed k env As) : DW C ds ops Q Bs (fuel + 1) listed env As :=
  DW.all [i, j, k] hr (by simp) (by simpa using ⟨h, h', h''⟩)
theorem DW.all4 {Bs : List HP} {fuel : Nat} {listed : Array Bool} (i j k l : Nat) (hr : Region.ready .any ops listed = [i, j, k, l]) (h : DO C ds ops Q Bs fuel listed i env As) (h' : DO C ds ops Q Bs fuel listed j env As) (h'' : DO C ds ops Q Bs fuel listed k env As) (h3 : DO C ds ops Q Bs fuel listed l env As) : DW C ds ops Q Bs (fuel + 1) listed env As :=
  DW.all [i, j, k, l] hr (by simp) (by simpa using ⟨h, h', h'', h3⟩)

theorem DO.opR {Bs : List HP} {fuel : Nat} {listed l' : Array Bool} {i : Nat} {R : Value → List HP → Prop} (js : List Nat) (hi : ops[i]? = some o) (hr : OpR C ds env As o R) (hg : wantedE ops env o = some true) (hd : dstOk C.N o.dst = true)
    (hB : ∀ v As', R v As' → okIdx js As'.length = true ∧ picks js As' = Bs) (hl : listed.setIfInBounds i true = l') (h : ∀ v As', R v As' → DW C ds ops Q Bs fuel l' (putE o.dst v env) As') : DO C ds ops Q Bs fuel listed i env As := by
  subst hl
  intro a w ha hs hw
  obtain ⟨v, As', w', hR, hrun, hs', hsame⟩ := hr a w ha hs
  have hk := h v As' hR (a.put o.dst v) w' (ha.put hd v) hs' (hw.trans hsame)
  have hb := hB v As' hR
  have hb' := hb.2 ▸ hs'.picks js hb.1
  unfold wpOp
  simp only [hi]
  rw [if_pos (ha.wanted hg)]
  left
  unfold Oper.wp
  rcases hrun with e | ⟨e, rfl⟩
  · rw [e]; exact ⟨hb', hk⟩
  · rw [e]; exact ⟨hb', hk⟩
theorem DO.opU {Bs : List HP} {fuel : Nat} {listed l' : Array Bool} {i : Nat} {v : Value} {As' : List HP} (js : List Nat) (hi : ops[i]? = some ⟨none, op, ty, pos, af, gd⟩) (hv : OpU C ds env As ⟨none, op, ty, pos, af, gd⟩ v As') (hg : wantedE ops env ⟨none, op, ty, pos, af, gd⟩ = some true)
    (hok : okIdx js As'.length = true) (hB : picks js As' = Bs) (hl : listed.setIfInBounds i true = l') (h : DW C ds ops Q Bs fuel l' env As') : DO C ds ops Q Bs fuel listed i env As :=
  DO.opR js hi hv hg rfl (by rintro _ _ ⟨rfl, rfl⟩; exact ⟨hok, hB⟩) hl (by rintro _ _ ⟨rfl, rfl⟩; exact h)
theorem DO.opV {Bs : List HP} {fuel : Nat} {listed l' : Array Bool} {i : Nat} {v : Value} (js : List Nat) (hi : ops[i]? = some ⟨some dt, op, ty, pos, af, gd⟩) (hv : OpV C ds env As ⟨some dt, op, ty, pos, af, gd⟩ v) (hg : wantedE ops env ⟨some dt, op, ty, pos, af, gd⟩ = some true) (hd : Nat.ble (dt + 1) C.N = true)
    (hok : okIdx js As.length = true) (hB : picks js As = Bs) (hl : listed.setIfInBounds i true = l') (h : DW C ds ops Q Bs fuel l' ((dt, v) :: env) As) : DO C ds ops Q Bs fuel listed i env As :=
  DO.opR (R := fun u B => u = v ∧ B = As) js hi (fun a w ha hs => ⟨v, As, w, ⟨rfl, rfl⟩, .inl (hv a w ha hs), hs, Same.refl w⟩) hg hd (by rintro _ _ ⟨rfl, rfl⟩; exact ⟨hok, hB⟩) hl (by rintro _ _ ⟨rfl, rfl⟩; exact h)
theorem DO.skip {Bs : List HP} {fuel : Nat} {listed l' : Array Bool} {i : Nat} (js : List Nat) (hi : ops[i]? = some ⟨some dt, op, ty, pos, af, gd⟩) (hg : wantedE ops env ⟨some dt, op, ty, pos, af, gd⟩ = some false) (hd : Nat.ble (dt + 1) C.N = true)
    (hok : okIdx js As.length = true) (hB : picks js As = Bs) (hl : listed.setIfInBounds i true = l') (h : DW C ds ops Q Bs fuel l' ((dt, undef) :: env) As) : DO C ds ops Q Bs fuel listed i env As := by
  subst hl
  intro a w ha hs hw
  unfold wpOp
  simp only [hi]
  rw [if_neg (by rw [ha.wanted hg]; simp)]
  exact ⟨hB ▸ hs.picks js hok, h _ w (ha.put (d := some dt) hd undef) hs hw⟩
theorem DO.call {Bs : List HP} {fuel : Nat} {listed l' : Array Bool} {i : Nat} {f : FuncId} {args : Array Value} {post : Value → List HP → Prop} (js : List Nat) (is : List Nat) (hi : ops[i]? = some ⟨some dt, op, ty, pos, af, gd⟩) (hc : OpC C ds env As ⟨some dt, op, ty, pos, af, gd⟩ f args)
    (hg : wantedE ops env ⟨some dt, op, ty, pos, af, gd⟩ = some true) (hd : Nat.ble (dt + 1) C.N = true) (hok : okIdx is As.length = true) {pre : List HP} (hp : picks is As = pre) (hF : Fn C.P f args pre (Ret post))
    (hB : ∀ v Q', post v Q' → okIdx js (putBack is Q' As).length = true ∧ picks js (putBack is Q' As) = Bs) (hl : listed.setIfInBounds i true = l')
    (hn : ∀ v Q', post v Q' → DW C ds ops Q Bs fuel l' ((dt, v) :: env) (putBack is Q' As)) : DO C ds ops Q Bs fuel listed i env As := by
  subst hl; subst hp
  intro a w ha hs hw
  unfold wpOp
  simp only [hi]
  rw [if_pos (ha.wanted hg)]
  left
  unfold Oper.wp
  rw [hc a w ha hs]
  refine callUpon (o := ⟨some dt, op, ty, pos, af, gd⟩) is hok hF ha hs hw hd (fun v Q' hq => ?_) (fun _ _ h => h.elim) (fun _ h => h)
  intro a' w' ha' hs' hw'
  have hb := hB v Q' hq
  exact ⟨hb.2 ▸ hs'.picks js hb.1, hn v Q' hq a' w' ha' hs' hw'⟩
end
end Sx
end Go.Proofs.Ytkofbanncacamaa
