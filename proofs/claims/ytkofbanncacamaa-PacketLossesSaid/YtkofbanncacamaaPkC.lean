/- Package packet: Feed. -/
import Derived.Test.YtkofbanncacamaaPkB
namespace Go.Proofs.Ytkofbanncacamaa
namespace Sx

theorem wrap_nat {n : Nat} (h : n < 2 ^ 63) : IntKind.i64.wrap (n : Int) = n := wrap_i64 (by omega)
theorem bits_mask (x : Int) (k : Nat) (hk : k < 63) : bits2 .and .i64 x (2 ^ k - 1 : Nat) = x % (2 ^ k : Nat) := by
  have h2 : (2 : Nat) ^ k < 2 ^ 63 := Nat.pow_lt_pow_right (by omega) hk
  have hp : 0 < (2 : Nat) ^ k := Nat.pos_of_ne_zero (by simp)
  have e1 : (BitVec.ofInt 64 x &&& BitVec.ofInt 64 ((2 ^ k - 1 : Nat) : Int)).toNat = (x % (2 ^ 64 : Nat)).toNat % 2 ^ k := by
    rw [BitVec.toNat_and, BitVec.toNat_ofInt, BitVec.toNat_ofInt]
    have : (((2 ^ k - 1 : Nat) : Int) % (2 ^ 64 : Nat)).toNat = 2 ^ k - 1 := by
      rw [Int.emod_eq_of_lt (by omega) (by have : (2:Nat)^63 < 2^64 := by decide
                                           omega)]; rfl
    rw [this, Nat.and_two_pow_sub_one_eq_mod]
  show IntKind.i64.wrap ((BitVec.ofInt 64 x &&& BitVec.ofInt 64 ((2 ^ k - 1 : Nat) : Int)).toNat : Int) = _
  rw [e1, wrap_nat (Nat.lt_trans (Nat.mod_lt _ hp) h2)]
  have h3 : (0 : Int) ≤ x % (2 ^ 64 : Nat) := Int.emod_nonneg _ (by decide)
  rw [Int.natCast_emod, Int.toNat_of_nonneg h3]
  exact Int.emod_emod_of_dvd x (by exact_mod_cast Nat.pow_dvd_pow 2 (by omega))
theorem mask14 (x : Int) : bits2 .and .i64 x 16383 = x % 16384 := bits_mask x 14 (by omega)
theorem mask1 (x : Int) : bits2 .and .i64 x 1 = x % 2 := bits_mask x 1 (by omega)

structure Pc where
  whole : Bool
  msg : List UInt8
  missed : Int
  broken : Bool
abbrev pcv (p : Pc) : Value := .agg #[.bool p.whole, S p.msg, .int .i64 p.missed, .bool p.broken]
def pc0 : Pc := ⟨false, [], 0, false⟩
def feedM (k : Option Kn) (p : Pk) : Int := match k with
  | none => 0
  | some k => (p.count - k.next) % 16384
def feedB (t : Option (List UInt8)) (m : Int) (p : Pk) : Bool := t.isSome && (decide (m ≠ 0) || decide (p.flags % 2 ≠ 0))
def feedF (t : Option (List UInt8)) (m : Int) (br : Bool) (p : Pk) : Pc × Option (List UInt8) :=
  if p.flags = 3 then (⟨true, p.data, m, br⟩, t)
  else if p.flags = 1 then (⟨false, [], m, br⟩, some p.data)
  else match t with
    | none => (⟨false, [], m, br⟩, none)
    | some l => if p.flags = 2 ∧ l.length + p.data.length ≤ 16384 then (⟨true, l ++ p.data, m, br⟩, none)
      else if 16384 < l.length + p.data.length then (⟨false, [], m, true⟩, none) else (⟨false, [], m, br⟩, some (l ++ p.data))
def feedK (k : Option Kn) (p : Pk) : Pc × Kn :=
  let m := feedM k p
  let t0 := (k.getD ⟨0, none⟩).txt
  let br := feedB t0 m p
  let r := feedF (if br then none else t0) m br p
  (r.1, ⟨(p.count + 1) % 16384, r.2⟩)
def feedJ (st : List (Int × Kn)) (p : Pk) : (Pc × Int) × List (Int × Kn) :=
  if ¬ p.ok then ((pc0, 2), st) else if p.apid = 2047 then ((pc0, 0), st) else
  let r := feedK (look st p.apid) p
  ((r.1, 0), putk st p.apid r.2)
def KnOk (k : Kn) : Prop := 0 ≤ k.next ∧ k.next ≤ 16383 ∧ ∀ l, k.txt = some l → l.length ≤ 16384
def StOk (st : List (Int × Kn)) : Prop := ∀ e ∈ st, KnOk e.2
theorem look_ok {st : List (Int × Kn)} (h : StOk st) {a : Int} : KnOk ((look st a).getD ⟨0, none⟩) := by
  induction st with
  | nil => exact ⟨by simp [look], by simp [look], fun l e => by simp [look] at e⟩
  | cons e r ih =>
    obtain ⟨b, k⟩ := e
    simp only [look]
    by_cases hb : b = a
    · simp only [if_pos hb]; exact h (b, k) (by simp)
    · simp only [if_neg hb]; exact ih fun e he => h e (by simp [he])

theorem Feed_bad {jb : Nat} {st : List (Int × Kn)} {p : Pk} (h : ¬ p.ok) : Fn Try.prog 7 #[.pointer (some ⟨jb, 0, none⟩), pkv p] [JA jb st] (Ret fun v Q => v = .tuple #[pcv pc0, .int .i64 2] ∧ Q = [JA jb st]) := by
  refine Fn.of (args := _) Try.func7 rfl Try.ntmps7 rfl ?_
  intro w0 g0
  refine KW.openJ 1 rfl fun mb L hL => ?_
  subst hL
  simp only [List.set_cons_succ, List.set_cons_zero, List.cons_append, List.nil_append]
  refine CW.seq ?_
  refine CW.region ?_
  refine LW.opBA (ob_box rfl .agg (fun _ => .c (.c (.c (.c (.n)))))) rfl rfl (fun b3 => ?_)
  refine LW.opBA (ob_alloc zc36 (fun _ => .c (.c (.c (.c (.c (.n))))))) rfl rfl (fun b4 => ?_)
  refine LW.opV (ov_assign rfl) rfl rfl ?_
  refine LW.nil ?_
  refine KW.thenN ?_
  refine CW.seq ?_
  refine CW.seq ?_
  refine CW.region ?_
  refine LW.opV (ov_move rfl) rfl rfl ?_
  refine LW.call [1] (oc_fn cf17 rfl) rfl rfl rfl rfl (none_ok jb mb) ?_
  rintro _ _ ⟨rfl, rfl⟩
  simp only [putBack, List.set_cons_succ, List.set_cons_zero, List.append_nil]
  refine LW.nil ?_
  refine KW.thenN ?_
  refine CW.condF rfl (rfl) ?_
  refine CW.skip ?_
  refine KW.thenN ?_
  refine CW.seq ?_
  refine CW.seq ?_
  refine CW.region ?_
  refine LW.opV (ov_loadAR 4 ta34 rfl rfl (.h (.h (.h (.h (.h (.n))))))) rfl rfl ?_
  refine LW.call [] (oc_fn cf18 rfl) rfl rfl rfl rfl (Valid_ok p) ?_
  rintro _ _ ⟨rfl, rfl⟩
  simp only [putBack, List.append_nil]
  refine LW.opV (ov_not rfl) rfl rfl ?_
  refine LW.nil ?_
  refine KW.thenN ?_
  refine CW.condT rfl (by simp [h]) ?_
  refine CW.seq ?_
  refine CW.region ?_
  refine LW.opV (ov_build zc36 pl36 rfl (.n)) rfl rfl ?_
  refine LW.opU (ou_storeW ta36 rfl rfl .agg rfl rfl (.h (.h (.h (.h (.n))))) (.t (.t (.t (.t (.t (.h))))))) rfl ?_
  refine LW.opV (ov_assign rfl) rfl rfl ?_
  refine LW.nil ?_
  refine KW.thenN ?_
  refine CW.ret ?_
  refine KW.thenR ?_
  exact KW.retE (.cons (ResV.cellA 5 ta36 rfl rfl (.h (.h (.h (.h .n))))) (.cons (.tmp rfl) .nil)) fun w hs hw => ⟨_, ⟨rfl, rfl⟩, JA.mk' (Bs := [ex g0]) (hs.picks [0, 1, 2, 3] rfl), hw⟩
theorem Feed_idle {jb : Nat} {st : List (Int × Kn)} {p : Pk} (h : p.ok) (hi : p.apid = 2047) : Fn Try.prog 7 #[.pointer (some ⟨jb, 0, none⟩), pkv p] [JA jb st] (Ret fun v Q => v = .tuple #[pcv pc0, .int .i64 0] ∧ Q = [JA jb st]) := by
  refine Fn.of (args := _) Try.func7 rfl Try.ntmps7 rfl ?_
  intro w0 g0
  refine KW.openJ 1 rfl fun mb L hL => ?_
  subst hL
  simp only [List.set_cons_succ, List.set_cons_zero, List.cons_append, List.nil_append]
  refine CW.seq ?_
  refine CW.region ?_
  refine LW.opBA (ob_box rfl .agg (fun _ => .c (.c (.c (.c (.n)))))) rfl rfl (fun b3 => ?_)
  refine LW.opBA (ob_alloc zc36 (fun _ => .c (.c (.c (.c (.c (.n))))))) rfl rfl (fun b4 => ?_)
  refine LW.opV (ov_assign rfl) rfl rfl ?_
  refine LW.nil ?_
  refine KW.thenN ?_
  refine CW.seq ?_
  refine CW.seq ?_
  refine CW.region ?_
  refine LW.opV (ov_move rfl) rfl rfl ?_
  refine LW.call [1] (oc_fn cf17 rfl) rfl rfl rfl rfl (none_ok jb mb) ?_
  rintro _ _ ⟨rfl, rfl⟩
  simp only [putBack, List.set_cons_succ, List.set_cons_zero, List.append_nil]
  refine LW.nil ?_
  refine KW.thenN ?_
  refine CW.condF rfl (rfl) ?_
  refine CW.skip ?_
  refine KW.thenN ?_
  refine CW.seq ?_
  refine CW.seq ?_
  refine CW.region ?_
  refine LW.opV (ov_loadAR 4 ta34 rfl rfl (.h (.h (.h (.h (.h (.n))))))) rfl rfl ?_
  refine LW.call [] (oc_fn cf18 rfl) rfl rfl rfl rfl (Valid_ok p) ?_
  rintro _ _ ⟨rfl, rfl⟩
  simp only [putBack, List.append_nil]
  refine LW.opV (ov_not rfl) rfl rfl ?_
  refine LW.nil ?_
  refine KW.thenN ?_
  refine CW.condF rfl (by simp [h]) ?_
  refine CW.skip ?_
  refine KW.thenN ?_
  refine CW.seq ?_
  refine CW.seq ?_
  refine CW.region ?_
  refine LW.opV (ov_fieldAddr fo34_1 rfl) rfl rfl ?_
  refine LW.opV (ov_loadR 4 ta3 rfl rfl rfl) rfl rfl ?_
  refine LW.opV (ov_eql rfl rfl) rfl rfl ?_
  refine LW.nil ?_
  refine KW.thenN ?_
  refine CW.condT rfl (by simp [hi]) ?_
  refine CW.seq ?_
  refine CW.region ?_
  refine LW.opV (ov_build zc36 pl36 rfl (.n)) rfl rfl ?_
  refine LW.opU (ou_storeW ta36 rfl rfl .agg rfl rfl (.h (.h (.h (.h (.n))))) (.t (.t (.t (.t (.t (.h))))))) rfl ?_
  refine LW.opV (ov_assign rfl) rfl rfl ?_
  refine LW.nil ?_
  refine KW.thenN ?_
  refine CW.ret ?_
  refine KW.thenR ?_
  exact KW.retE (.cons (ResV.cellA 5 ta36 rfl rfl (.h (.h (.h (.h .n))))) (.cons (.tmp rfl) .nil)) fun w hs hw => ⟨_, ⟨rfl, rfl⟩, JA.mk' (Bs := [ex g0]) (hs.picks [0, 1, 2, 3] rfl), hw⟩

/-- the text of an open message; of a closed one nothing is said -/
def txtX (t : Option (List UInt8)) (v : Value) : HP := fun h => ∀ l, t = some l → bytesA 5 v l h
theorem txtX_of {k : Kn} {v : Value} : ∀ g, txtA k v g → txtX k.txt v g := by
  rintro g (⟨h, _⟩ | ⟨l, h, hb⟩) l' h'
  · rw [h] at h'; cases h'
  · rw [h] at h'; cases h'; exact hb
/-- The pieces are a joiner again, with what is known of the APID now. -/
theorem close_ent {w : World} {g0 : Hl} {jb mb : Nat} {L : List Ent} {a : Int} {k' : Kn} {v' : Value} {rs : HP} (hj : ∀ g, star (txtA k' v') rs g → txts (lset L a k' v') g)
    (h : Sat w [ex g0, row jb 32 [.map (some mb)], mapI mb (mset (mk L) a (kval k' v')), txtA k' v', rs]) : Sat w [ex g0, JA jb (putk (stOf L) a k')] := by
  have h1 := h.join 3 4 (A := txtA k' v') (B := rs) rfl rfl (by omega)
  have h2 := h1.imp 3 (B := txts (lset L a k' v')) rfl hj
  have h3 := h2.picks [0, 1, 2, 3] rfl
  rw [mset_mk] at h3
  have h4 := JA.mk' (Bs := [ex g0]) (L := lset L a k' v') h3
  rw [stOf_lset] at h4
  exact h4
theorem txtX_some {t : Option (List UInt8)} {v : Value} {l : List UInt8} (ht : t = some l) : ∀ g, txtX t v g → bytesA 5 v l g := fun g h => h l ht
theorem Feed_main {jb : Nat} {st : List (Int × Kn)} {p : Pk} (h : p.ok) (hi : p.apid ≠ 2047) (hst : StOk st) : Fn Try.prog 7 #[.pointer (some ⟨jb, 0, none⟩), pkv p] [JA jb st]
    (Ret fun v Q => v = .tuple #[pcv (feedK (look st p.apid) p).1, .int .i64 0] ∧ Q = [JA jb (putk st p.apid (feedK (look st p.apid) p).2)]) := by
  refine Fn.of (args := _) Try.func7 rfl Try.ntmps7 rfl ?_
  intro w0 g0
  refine KW.openJ 1 rfl fun mb L hL => ?_
  subst hL
  simp only [List.set_cons_succ, List.set_cons_zero, List.cons_append, List.nil_append]
  refine CW.seq ?_
  refine CW.region ?_
  refine LW.opBA (ob_box rfl .agg (fun _ => .c (.c (.c (.c (.n)))))) rfl rfl (fun b3 => ?_)
  refine LW.opBA (ob_alloc zc36 (fun _ => .c (.c (.c (.c (.c (.n))))))) rfl rfl (fun b4 => ?_)
  refine LW.opV (ov_assign rfl) rfl rfl ?_
  refine LW.nil ?_
  refine KW.thenN ?_
  refine CW.seq ?_
  refine CW.seq ?_
  refine CW.region ?_
  refine LW.opV (ov_move rfl) rfl rfl ?_
  refine LW.call [1] (oc_fn cf17 rfl) rfl rfl rfl rfl (none_ok jb mb) ?_
  rintro _ _ ⟨rfl, rfl⟩
  simp only [putBack, List.set_cons_succ, List.set_cons_zero, List.append_nil]
  refine LW.nil ?_
  refine KW.thenN ?_
  refine CW.condF rfl (rfl) ?_
  refine CW.skip ?_
  refine KW.thenN ?_
  refine CW.seq ?_
  refine CW.seq ?_
  refine CW.region ?_
  refine LW.opV (ov_loadAR 4 ta34 rfl rfl (.h (.h (.h (.h (.h (.n))))))) rfl rfl ?_
  refine LW.call [] (oc_fn cf18 rfl) rfl rfl rfl rfl (Valid_ok p) ?_
  rintro _ _ ⟨rfl, rfl⟩
  simp only [putBack, List.append_nil]
  refine LW.opV (ov_not rfl) rfl rfl ?_
  refine LW.nil ?_
  refine KW.thenN ?_
  refine CW.condF rfl (by simp [h]) ?_
  refine CW.skip ?_
  refine KW.thenN ?_
  refine CW.seq ?_
  refine CW.seq ?_
  refine CW.region ?_
  refine LW.opV (ov_fieldAddr fo34_1 rfl) rfl rfl ?_
  refine LW.opV (ov_loadR 4 ta3 rfl rfl rfl) rfl rfl ?_
  refine LW.opV (ov_eql rfl rfl) rfl rfl ?_
  refine LW.nil ?_
  refine KW.thenN ?_
  refine CW.condF rfl (by simp [hi]) ?_
  refine CW.skip ?_
  refine KW.thenN ?_
  refine CW.seq ?_
  refine CW.region ?_
  refine LW.opBA (ob_alloc zc36 (fun _ => .c (.c (.c (.c (.c (.c (.n)))))))) rfl rfl (fun b6 => ?_)
  refine LW.nil ?_
  refine KW.thenN ?_
  refine CW.seq ?_
  obtain ⟨k0, v0, rs, hk0, hml, hv0, hsp, hjn⟩ := split_ent p.apid L
  have hko := look_ok hst (a := p.apid)
  rw [← hk0] at hko
  obtain ⟨hn0, hn1, htx⟩ := hko
  refine KW.turn (As' := [ex g0, row jb 32 [.map (some mb)], mapI mb (mk L), txtA k0 v0, _, _, _, rs]) (fun w hs => (hs.imp 3 rfl hsp).split 3 rfl) ?_
  have hval : (mlook (mk L) p.apid).getD (.agg #[.int .i64 0, .bool false, .slice none 0 0]) = kval k0 v0 := by
    rw [hml, hk0]
    cases e : look (stOf L) p.apid with
    | none => simp [hv0 e]
    | some k => simp
  have hsm : (mlook (mk L) p.apid).isSome = (look (stOf L) p.apid).isSome := by rw [hml]; simp
  refine KW.fact (p := ∃ (ad : Option Addr) (n c : Nat), v0 = .slice ad n c) (fun w hs => ?_) ?_
  · obtain ⟨g, hg, _⟩ := hs.take 3 rfl
    rcases hg with ⟨_, rfl⟩ | ⟨l, _, _, ⟨rfl, _⟩ | ⟨b, c, _, rfl, _⟩⟩
    · exact ⟨_, _, _, rfl⟩
    · exact ⟨_, _, _, rfl⟩
    · exact ⟨_, _, _, rfl⟩
  rintro ⟨ad, vn, vc, rfl⟩
  refine CW.draw [1,2,4] rfl mixed rfl (ls := #[false, false, false, false, false, false, false, false, false, false, false, false, false]) (by kernel_rfl) ?_
  refine DW.take 0 [1,2,4] rfl (by kernel_rfl) (by kernel_rfl) (by kernel_rfl) (fun _ _ _ h => h) (ov_move rfl) rfl rfl rfl rfl rfl ?_
  first | refine DW.take 1 [1,2,4] rfl (by kernel_rfl) (by kernel_rfl) (by kernel_rfl) (fun _ _ _ h => h) (ov_nilP rfl) rfl rfl rfl rfl rfl ?_ | refine DW.take 1 [1,2,4] rfl (by kernel_rfl) (by kernel_rfl) (by kernel_rfl) (fun _ _ _ h => h) (ov_nilF rfl) rfl rfl rfl rfl rfl ?_
  refine DW.take 2 [1,2,4] rfl (by kernel_rfl) (by kernel_rfl) (by kernel_rfl) (fun _ _ _ h => h) (ov_fieldAddr fo32_0 rfl) rfl rfl rfl rfl rfl ?_
  refine DW.take 3 [1,2,4] rfl (by kernel_rfl) (by kernel_rfl) (by kernel_rfl) (fun _ _ _ h => h) (ov_loadR 0 ta30 rfl rfl rfl) rfl rfl rfl rfl rfl ?_
  refine DW.take 4 [1,2,4] rfl (by kernel_rfl) (by kernel_rfl) (by kernel_rfl) (fun _ _ _ h => h) (ov_fieldAddr fo34_1 rfl) rfl rfl rfl rfl rfl ?_
  refine DW.take 5 [1,2,4] rfl (by kernel_rfl) (by kernel_rfl) (by kernel_rfl) (fun _ _ _ h => h) (ov_loadR 2 ta3 rfl rfl rfl) rfl rfl rfl rfl rfl ?_
  refine DW.take 6 [1,2,4] rfl (by kernel_rfl) (by kernel_rfl) (by kernel_rfl) (fun _ _ _ h => h) (ov_lookOk' 1 un30 un3 zo57 rfl rfl rfl hval hsm) rfl rfl rfl rfl rfl ?_
  refine DW.take 7 [1,2,4] rfl (by kernel_rfl) (by kernel_rfl) (by kernel_rfl) (fun _ _ _ h => h) (ov_move rfl) rfl rfl rfl rfl rfl ?_
  refine DW.take 8 [1,2,4] rfl (by kernel_rfl) (by kernel_rfl) (by kernel_rfl) (fun _ _ _ h => h) (ov_extract rfl rfl) rfl rfl rfl rfl rfl ?_
  refine DW.take 9 [1,2,4] rfl (by kernel_rfl) (by kernel_rfl) (by kernel_rfl) (fun _ _ _ h => h) (ov_extract rfl rfl) rfl rfl rfl rfl rfl ?_
  refine DW.all1 10 (by kernel_rfl) ?_
  refine DO.opBA [1,2,4] rfl (ob_alloc zc57 (fun _ => .c (.c (.c (.c (.c (.c (.c (.c (.n)))))))))) rfl rfl (fun _ => rfl) (fun _ => rfl) rfl (fun b7 => ?_)
  refine DW.all1 11 (by kernel_rfl) ?_
  refine DO.opU [1,2,4] rfl (ou_storeW ta57 rfl rfl .agg rfl rfl (.h (.h (.h (.n)))) (.t (.t (.t (.t (.t (.t (.t (.t (.h)))))))))) rfl rfl rfl rfl ?_
  refine DW.take 12 [1,2,4] rfl (by kernel_rfl) (by kernel_rfl) (by kernel_rfl) (fun _ _ _ h => h) (ov_assign rfl) rfl rfl rfl rfl rfl ?_
  refine DW.done (by kernel_rfl) ?_
  refine KW.thenN ?_
  obtain ⟨hp0, hp1, hp2, hp3, hp4, hp5, hp6, hp7⟩ := id h
  -- what is missed
  refine KW.turn (As' := [ex g0, row jb 32 [.map (some mb)], mapI mb (mk L), txtX k0.txt (.slice ad vn vc), _, _, _, rs, _]) (fun w hs => hs.imp 3 rfl txtX_of) ?_
  generalize hfm : feedM (look (stOf L) p.apid) p = m
  refine CW.cut (fun env As => env = [(0, .pointer (some ⟨jb, 0, none⟩)), (3, .pointer (some ⟨b3, 0, none⟩)), (4, .pointer (some ⟨b4, 0, none⟩)), (6, .pointer (some ⟨b6, 0, none⟩)), (7, .pointer (some ⟨b7, 0, none⟩))] ∧ As = [ex g0, row jb 32 [.map (some mb)], mapI mb (mk L), txtX k0.txt (.slice ad vn vc), row b3 34 [.bool p.cmd, .int .i64 p.apid, .int .i64 p.flags, .int .i64 p.count, S p.data], row b4 36 [.bool false, S [], .int .i64 0, .bool false], row b6 36 [.bool false, S [], .int .i64 m, .bool false], rs, row b7 57 [.int .i64 k0.next, .bool k0.txt.isSome, .slice ad vn vc]]) (fun M hM => ?_) ?_
  · refine CW.seq ?_
    refine CW.region ?_
    refine LW.opV (ov_move rfl) rfl rfl ?_
    refine LW.nil ?_
    refine KW.thenN ?_
    refine CW.cond (by rfl) (fun hb => ?_) (fun hb => ?_)
    · obtain ⟨k, hk⟩ := Option.isSome_iff_exists.1 hb
      refine CW.region ?_
      refine LW.opV (ov_fieldAddr fo34_3 rfl) rfl rfl ?_
      refine LW.opV (ov_loadR 4 ta3 rfl rfl rfl) rfl rfl ?_
      refine LW.opV (ov_fieldAddr fo57_0 rfl) rfl rfl ?_
      refine LW.opV (ov_loadR 8 ta3 rfl rfl rfl) rfl rfl ?_
      first | refine LW.opV (ov_sub rfl rfl (by omega)) rfl rfl ?_ | refine LW.opV (ov_subW rfl rfl) rfl rfl ?_
      refine LW.opV (ov_bits (.inl rfl) rfl rfl (mask14 _)) rfl rfl ?_
      refine LW.opV (ov_fieldAddr fo36_2 rfl) rfl rfl ?_
      refine LW.opU (ou_storeW ta3 rfl rfl (.one rfl) rfl rfl (.t (.t (.h (.n)))) (.t (.t (.t (.t (.t (.t (.h)))))))) rfl ?_
      refine LW.nil ?_
      refine KW.thenN ?_
      have hm : m = (p.count - k0.next) % 16384 := by rw [← hfm, hk0, hk]; rfl
      rw [← hm]
      exact KW.meet [0, 1, 2, 3, 4, 5, 6, 7, 8] hM ⟨rfl, rfl⟩ ⟨rfl, rfl, rfl, rfl, rfl, trivial⟩ rfl rfl
    · refine CW.skip ?_
      refine KW.thenN ?_
      have hm : m = 0 := by
        rw [← hfm]
        cases e : look (stOf L) p.apid with
        | none => rfl
        | some k => rw [e] at hb; cases hb
      subst hm
      exact KW.meet [0, 1, 2, 3, 4, 5, 6, 7, 8] hM ⟨rfl, rfl⟩ ⟨rfl, rfl, rfl, rfl, rfl, trivial⟩ rfl rfl
  rintro _ _ ⟨rfl, rfl⟩
  refine CW.seq ?_
  refine CW.region ?_
  refine LW.opV (ov_fieldAddr fo34_3 rfl) rfl rfl ?_
  refine LW.opV (ov_loadR 4 ta3 rfl rfl rfl) rfl rfl ?_
  first | refine LW.opV (ov_add rfl rfl (by omega)) rfl rfl ?_ | refine LW.opV (ov_addW rfl rfl) rfl rfl ?_
  refine LW.opV (ov_bits (.inl rfl) rfl rfl (mask14 _)) rfl rfl ?_
  refine LW.opV (ov_fieldAddr fo57_0 rfl) rfl rfl ?_
  refine LW.opU (ou_storeW ta3 rfl rfl (.one rfl) rfl rfl (.h (.n)) (.t (.t (.t (.t (.t (.t (.t (.t (.h)))))))))) rfl ?_
  refine LW.nil ?_
  refine KW.thenN ?_
  -- is a message given up?
  generalize hnx : (p.count + 1) % 16384 = nx
  generalize hbr : feedB k0.txt m p = br
  generalize ht1 : (if br then none else k0.txt) = t1
  refine CW.cut (fun env As => env = [(0, .pointer (some ⟨jb, 0, none⟩)), (3, .pointer (some ⟨b3, 0, none⟩)), (4, .pointer (some ⟨b4, 0, none⟩)), (6, .pointer (some ⟨b6, 0, none⟩)), (7, .pointer (some ⟨b7, 0, none⟩))] ∧ As = [ex g0, row jb 32 [.map (some mb)], mapI mb (mk L), txtX t1 (.slice ad vn vc), row b3 34 [.bool p.cmd, .int .i64 p.apid, .int .i64 p.flags, .int .i64 p.count, S p.data], row b4 36 [.bool false, S [], .int .i64 0, .bool false], row b6 36 [.bool false, S [], .int .i64 m, .bool br], rs, row b7 57 [.int .i64 nx, .bool t1.isSome, .slice ad vn vc]]) (fun M hM => ?_) ?_
  · have stay : k0.txt.isSome = false ∨ (m = 0 ∧ p.flags % 2 = 0) → br = false ∧ t1 = k0.txt := by
      intro hc
      have e : br = false := by
        rw [← hbr]; unfold feedB
        rcases hc with hc | ⟨hc, hc'⟩
        · simp [hc]
        · simp [hc, hc']
      exact ⟨e, by rw [← ht1, e]; rfl⟩
    have given : k0.txt.isSome = true → (m ≠ 0 ∨ p.flags % 2 ≠ 0) → br = true ∧ t1 = none := by
      intro hc hc'
      have e : br = true := by
        rw [← hbr]; unfold feedB; rw [hc]
        rcases hc' with hc' | hc' <;> simp [hc']
      exact ⟨e, by rw [← ht1, e]; rfl⟩
    clear hbr ht1 hfm hnx
    refine CW.seq ?_
    refine CW.region ?_
    refine LW.opV (ov_fieldAddr fo57_1 rfl) rfl rfl ?_
    refine LW.opV (ov_loadR 8 ta4 rfl rfl rfl) rfl rfl ?_
    refine LW.opV (ov_move rfl) rfl rfl ?_
    refine KW.split 45 rfl (fun ho => ?_) (fun ho => ?_)
    · refine LW.opV (ov_fieldAddr fo36_2 rfl) rfl rfl ?_
      refine LW.opV (ov_loadR 6 ta3 rfl rfl rfl) rfl rfl ?_
      refine LW.opV (ov_neq rfl rfl) rfl rfl ?_
      refine LW.opV (ov_move rfl) rfl rfl ?_
      refine KW.splitD 49 rfl (fun hm => ?_) (fun hm => ?_)
      · obtain ⟨rfl, rfl⟩ := given ho (.inl hm)
        refine LW.skip rfl rfl ?_
        refine LW.skip rfl rfl ?_
        refine LW.skip rfl rfl ?_
        refine LW.skip rfl rfl ?_
        first | refine LW.opV (ov_pickT rfl rfl) rfl rfl ?_ | refine LW.opV (ov_pickF rfl rfl) rfl rfl ?_ | refine LW.opV (ov_pick rfl rfl rfl) rfl rfl ?_
        first | refine LW.opV (ov_pickT rfl rfl) rfl rfl ?_ | refine LW.opV (ov_pickF rfl rfl) rfl rfl ?_ | refine LW.opV (ov_pick rfl rfl rfl) rfl rfl ?_
        refine LW.nil ?_
        refine KW.thenN ?_
        refine CW.condT rfl rfl ?_
        refine CW.region ?_
        refine LW.opV (ov_fieldAddr fo57_1 rfl) rfl rfl ?_
        refine LW.opU (ou_storeW ta4 rfl rfl (.one rfl) rfl rfl (.t (.h (.n))) (.t (.t (.t (.t (.t (.t (.t (.t (.h)))))))))) rfl ?_
        refine LW.opV (ov_fieldAddr fo36_3 rfl) rfl rfl ?_
        refine LW.opU (ou_storeW ta4 rfl rfl (.one rfl) rfl rfl (.t (.t (.t (.h (.n))))) (.t (.t (.t (.t (.t (.t (.h)))))))) rfl ?_
        refine LW.nil ?_
        refine KW.thenN ?_
        refine KW.turn (As' := [_, _, _, txtX none (.slice ad vn vc), _, _, _, _, _]) (fun w hs => hs.imp 3 rfl (fun g _ l hl => by cases hl)) ?_
        exact KW.meet [0, 1, 2, 3, 4, 5, 6, 7, 8] hM ⟨rfl, rfl⟩ ⟨rfl, rfl, rfl, rfl, rfl, trivial⟩ rfl rfl
      · refine LW.opV (ov_fieldAddr fo34_2 rfl) rfl rfl ?_
        refine LW.opV (ov_loadR 4 ta3 rfl rfl rfl) rfl rfl ?_
        refine LW.opV (ov_bits (.inl rfl) rfl rfl (mask1 _)) rfl rfl ?_
        refine LW.opV (ov_neq rfl rfl) rfl rfl ?_
        first | refine LW.opV (ov_pickT rfl rfl) rfl rfl ?_ | refine LW.opV (ov_pickF rfl rfl) rfl rfl ?_ | refine LW.opV (ov_pick rfl rfl rfl) rfl rfl ?_
        first | refine LW.opV (ov_pickT rfl rfl) rfl rfl ?_ | refine LW.opV (ov_pickF rfl rfl) rfl rfl ?_ | refine LW.opV (ov_pick rfl rfl rfl) rfl rfl ?_
        refine LW.nil ?_
        refine KW.thenN ?_
        refine CW.condD (by rfl) (fun hf => ?_) (fun hf => ?_)
        · obtain ⟨rfl, rfl⟩ := given ho (.inr hf)
          refine CW.region ?_
          refine LW.opV (ov_fieldAddr fo57_1 rfl) rfl rfl ?_
          refine LW.opU (ou_storeW ta4 rfl rfl (.one rfl) rfl rfl (.t (.h (.n))) (.t (.t (.t (.t (.t (.t (.t (.t (.h)))))))))) rfl ?_
          refine LW.opV (ov_fieldAddr fo36_3 rfl) rfl rfl ?_
          refine LW.opU (ou_storeW ta4 rfl rfl (.one rfl) rfl rfl (.t (.t (.t (.h (.n))))) (.t (.t (.t (.t (.t (.t (.h)))))))) rfl ?_
          refine LW.nil ?_
          refine KW.thenN ?_
          refine KW.turn (As' := [_, _, _, txtX none (.slice ad vn vc), _, _, _, _, _]) (fun w hs => hs.imp 3 rfl (fun g _ l hl => by cases hl)) ?_
          exact KW.meet [0, 1, 2, 3, 4, 5, 6, 7, 8] hM ⟨rfl, rfl⟩ ⟨rfl, rfl, rfl, rfl, rfl, trivial⟩ rfl rfl
        · obtain ⟨rfl, rfl⟩ := stay (.inr ⟨by omega, by omega⟩)
          refine CW.skip ?_
          refine KW.thenN ?_
          exact KW.meet [0, 1, 2, 3, 4, 5, 6, 7, 8] hM ⟨rfl, rfl⟩ ⟨rfl, rfl, rfl, rfl, rfl, trivial⟩ rfl rfl
    · obtain ⟨rfl, rfl⟩ := stay (.inl ho)
      refine LW.skip rfl rfl ?_
      refine LW.skip rfl rfl ?_
      refine LW.skip rfl rfl ?_
      refine LW.skip rfl rfl ?_
      refine LW.skip rfl rfl ?_
      refine LW.skip rfl rfl ?_
      refine LW.skip rfl rfl ?_
      refine LW.skip rfl rfl ?_
      refine LW.skip rfl rfl ?_
      first | refine LW.opV (ov_pickT rfl rfl) rfl rfl ?_ | refine LW.opV (ov_pickF rfl rfl) rfl rfl ?_ | refine LW.opV (ov_pick rfl rfl rfl) rfl rfl ?_
      refine LW.nil ?_
      refine KW.thenN ?_
      refine CW.condF rfl rfl ?_
      refine CW.skip ?_
      refine KW.thenN ?_
      exact KW.meet [0, 1, 2, 3, 4, 5, 6, 7, 8] hM ⟨rfl, rfl⟩ ⟨rfl, rfl, rfl, rfl, rfl, trivial⟩ rfl rfl
  rintro _ _ ⟨rfl, rfl⟩
  have htl : ∀ l, t1 = some l → l.length ≤ 16384 := by
    intro l hl
    rw [← ht1] at hl
    cases br with
    | true => cases hl
    | false => exact htx l hl
  -- by the flags
  refine CW.cut (fun env As => ∃ (pc : Pc) (t2 : Option (List UInt8)) (ad : Option Addr) (vn vc : Nat), feedF t1 m br p = (pc, t2) ∧ env = [(0, .pointer (some ⟨jb, 0, none⟩)), (3, .pointer (some ⟨b3, 0, none⟩)), (4, .pointer (some ⟨b4, 0, none⟩)), (6, .pointer (some ⟨b6, 0, none⟩)), (7, .pointer (some ⟨b7, 0, none⟩))] ∧ As = [ex g0, row jb 32 [.map (some mb)], mapI mb (mk L), txtX t2 (.slice ad vn vc), row b3 34 [.bool p.cmd, .int .i64 p.apid, .int .i64 p.flags, .int .i64 p.count, S p.data], row b4 36 [.bool false, S [], .int .i64 0, .bool false], row b6 36 [.bool pc.whole, S pc.msg, .int .i64 pc.missed, .bool pc.broken], rs, row b7 57 [.int .i64 nx, .bool t2.isSome, .slice ad vn vc]]) (fun M hM => ?_) ?_
  · refine CW.seq ?_
    refine CW.region ?_
    refine LW.opV (ov_fieldAddr fo34_2 rfl) rfl rfl ?_
    refine LW.opV (ov_loadR 4 ta3 rfl rfl rfl) rfl rfl ?_
    refine LW.nil ?_
    refine KW.thenN ?_
    refine CW.block ?_
    refine CW.seq ?_
    refine CW.block ?_
    refine CW.seq ?_
    refine CW.block ?_
    refine CW.seq ?_
    refine CW.block ?_
    refine CW.seq ?_
    refine CW.block ?_
    refine CW.seq ?_
    refine CW.seq ?_
    refine CW.seq ?_
    refine CW.region ?_
    refine LW.opV (ov_eql rfl rfl) rfl rfl ?_
    refine LW.opV (ov_assign rfl) rfl rfl ?_
    refine LW.nil ?_
    refine KW.thenN ?_
    refine CW.condD (by rfl) (fun h3 => ?_) (fun h3 => ?_)
    · refine CW.exit ?_
      refine KW.thenX ?_
      refine KW.thenX ?_
      refine KW.hit ?_
      refine KW.thenN ?_
      refine CW.seq ?_
      refine CW.draw [4] rfl mixed rfl (ls := #[false, false, false, false, false, false]) (by kernel_rfl) ?_
      refine DW.take 0 [4] rfl (by kernel_rfl) (by kernel_rfl) (by kernel_rfl) (fun _ _ _ h => h) (ov_fieldAddr fo34_4 rfl) rfl rfl rfl rfl rfl ?_
      refine DW.take 1 [4] rfl (by kernel_rfl) (by kernel_rfl) (by kernel_rfl) (fun _ _ _ h => h) (ov_loadR 0 ta9 rfl rfl rfl) rfl rfl rfl rfl rfl ?_
      refine DW.take 2 [4] rfl (by kernel_rfl) (by kernel_rfl) (by kernel_rfl) (fun _ _ _ h => h) (ov_fieldAddr fo36_0 rfl) rfl rfl rfl rfl rfl ?_
      refine DW.all1 3 (by kernel_rfl) ?_
      refine DO.opU [4] rfl (ou_storeW ta4 rfl rfl (.one rfl) rfl rfl (.h (.n)) (.t (.t (.t (.t (.t (.t (.h)))))))) rfl rfl rfl rfl ?_
      refine DW.take 4 [4] rfl (by kernel_rfl) (by kernel_rfl) (by kernel_rfl) (fun _ _ _ h => h) (ov_fieldAddr fo36_1 rfl) rfl rfl rfl rfl rfl ?_
      refine DW.all1 5 (by kernel_rfl) ?_
      refine DO.opU [4] rfl (ou_storeW ta9 rfl rfl (.one rfl) rfl rfl (.t (.h (.n))) (.t (.t (.t (.t (.t (.t (.h)))))))) rfl rfl rfl rfl ?_
      refine DW.done (by kernel_rfl) ?_
      refine KW.thenN ?_
      refine CW.exit ?_
      refine KW.miss rfl ?_
      refine KW.thenX ?_
      refine KW.miss rfl ?_
      refine KW.thenX ?_
      refine KW.miss rfl ?_
      refine KW.thenX ?_
      refine KW.hit ?_
      refine KW.thenN ?_
      exact KW.meet [0, 1, 2, 3, 4, 5, 6, 7, 8] hM ⟨⟨true, p.data, m, br⟩, t1, ad, vn, vc, by simp [feedF, h3], rfl, rfl⟩ ⟨rfl, rfl, rfl, rfl, rfl, trivial⟩ rfl rfl
    refine CW.skip ?_
    refine KW.thenN ?_
    refine CW.seq ?_
    refine CW.seq ?_
    refine CW.region ?_
    refine LW.opV (ov_eql rfl rfl) rfl rfl ?_
    refine LW.opV (ov_assign rfl) rfl rfl ?_
    refine LW.nil ?_
    refine KW.thenN ?_
    refine CW.condD (by rfl) (fun h1 => ?_) (fun h1 => ?_)
    · refine CW.exit ?_
      refine KW.thenX ?_
      refine KW.thenX ?_
      refine KW.miss rfl ?_
      refine KW.thenX ?_
      refine KW.hit ?_
      refine KW.thenN ?_
      refine CW.seq ?_
      refine CW.draw [4] rfl mixed rfl (ls := #[false, false, false, false, false, false, false]) (by kernel_rfl) ?_
      refine DW.take 0 [4] rfl (by kernel_rfl) (by kernel_rfl) (by kernel_rfl) (fun _ _ _ h => h) (ov_fieldAddr fo34_4 rfl) rfl rfl rfl rfl rfl ?_
      refine DW.take 1 [4] rfl (by kernel_rfl) (by kernel_rfl) (by kernel_rfl) (fun _ _ _ h => h) (ov_loadR 0 ta9 rfl rfl rfl) rfl rfl rfl rfl rfl ?_
      refine DW.take 3 [4] rfl (by kernel_rfl) (by kernel_rfl) (by kernel_rfl) (fun _ _ _ h => h) (ov_fieldAddr fo57_1 rfl) rfl rfl rfl rfl rfl ?_
      refine DW.all2 2 4 (by kernel_rfl) ?_ ?_
      · refine DO.opX [4] rfl (ox_s2b un9 so55 un5 rfl (fun _ => .c (.c (.c (.c (.c (.c (.c (.c (.c (.n))))))))))) rfl rfl (fun _ => rfl) (fun _ => rfl) rfl (fun a74 c74 => ?_)
        refine DW.all1 4 (by kernel_rfl) ?_
        refine DO.opU [4] rfl (ou_storeW ta4 rfl rfl (.one rfl) rfl rfl (.t (.h (.n))) (.t (.t (.t (.t (.t (.t (.t (.t (.h)))))))))) rfl rfl rfl rfl ?_
        refine DW.take 5 [4] rfl (by kernel_rfl) (by kernel_rfl) (by kernel_rfl) (fun _ _ _ h => h) (ov_fieldAddr fo57_2 rfl) rfl rfl rfl rfl rfl ?_
        refine DW.all1 6 (by kernel_rfl) ?_
        refine DO.opU [4] rfl (ou_storeW ta55 rfl rfl (.one rfl) rfl rfl (.t (.t (.h (.n)))) (.t (.t (.t (.t (.t (.t (.t (.t (.h)))))))))) rfl rfl rfl rfl ?_
        refine DW.done (by kernel_rfl) ?_
        refine KW.thenN ?_
        refine CW.exit ?_
        refine KW.miss rfl ?_
        refine KW.thenX ?_
        refine KW.miss rfl ?_
        refine KW.thenX ?_
        refine KW.hit ?_
        refine KW.thenN ?_
        refine KW.turn (fun w hs => hs.imp 9 rfl (B := txtX (some p.data) (.slice a74 p.data.length c74)) (fun g hg l hl => by cases hl; exact hg)) ?_
        exact KW.meet [0, 1, 2, 9, 4, 5, 6, 7, 8] hM ⟨⟨false, [], m, br⟩, some p.data, a74, p.data.length, c74, by simp [feedF, h1], rfl, rfl⟩ ⟨rfl, rfl, rfl, rfl, rfl, trivial⟩ rfl rfl
      · refine DO.opU [4] rfl (ou_storeW ta4 rfl rfl (.one rfl) rfl rfl (.t (.h (.n))) (.t (.t (.t (.t (.t (.t (.t (.t (.h)))))))))) rfl rfl rfl rfl ?_
        refine DW.all1 2 (by kernel_rfl) ?_
        refine DO.opX [4] rfl (ox_s2b un9 so55 un5 rfl (fun _ => .c (.c (.c (.c (.c (.c (.c (.c (.c (.n))))))))))) rfl rfl (fun _ => rfl) (fun _ => rfl) rfl (fun a74 c74 => ?_)
        refine DW.take 5 [4] rfl (by kernel_rfl) (by kernel_rfl) (by kernel_rfl) (fun _ _ _ h => h) (ov_fieldAddr fo57_2 rfl) rfl rfl rfl rfl rfl ?_
        refine DW.all1 6 (by kernel_rfl) ?_
        refine DO.opU [4] rfl (ou_storeW ta55 rfl rfl (.one rfl) rfl rfl (.t (.t (.h (.n)))) (.t (.t (.t (.t (.t (.t (.t (.t (.h)))))))))) rfl rfl rfl rfl ?_
        refine DW.done (by kernel_rfl) ?_
        refine KW.thenN ?_
        refine CW.exit ?_
        refine KW.miss rfl ?_
        refine KW.thenX ?_
        refine KW.miss rfl ?_
        refine KW.thenX ?_
        refine KW.hit ?_
        refine KW.thenN ?_
        refine KW.turn (fun w hs => hs.imp 9 rfl (B := txtX (some p.data) (.slice a74 p.data.length c74)) (fun g hg l hl => by cases hl; exact hg)) ?_
        exact KW.meet [0, 1, 2, 9, 4, 5, 6, 7, 8] hM ⟨⟨false, [], m, br⟩, some p.data, a74, p.data.length, c74, by simp [feedF, h1], rfl, rfl⟩ ⟨rfl, rfl, rfl, rfl, rfl, trivial⟩ rfl rfl
    refine CW.skip ?_
    refine KW.thenN ?_
    refine CW.seq ?_
    refine CW.seq ?_
    refine CW.region ?_
    refine LW.opV (ov_eql rfl rfl) rfl rfl ?_
    refine LW.opV (ov_assign rfl) rfl rfl ?_
    refine LW.nil ?_
    refine KW.thenN ?_
    refine CW.condD (by rfl) (fun h2 => ?_) (fun h2 => ?_)
    · rcases t1 with _ | l
      · refine CW.exit ?_
        refine KW.thenX ?_
        refine KW.thenX ?_
        refine KW.miss rfl ?_
        refine KW.thenX ?_
        refine KW.miss rfl ?_
        refine KW.thenX ?_
        refine KW.hit ?_
        refine KW.thenN ?_
        refine CW.seq ?_
        refine CW.region ?_
        refine LW.opV (ov_fieldAddr fo57_1 rfl) rfl rfl ?_
        refine LW.opV (ov_loadR 8 ta4 rfl rfl rfl) rfl rfl ?_
        refine LW.opV (ov_move rfl) rfl rfl ?_
        refine KW.split 79 rfl (fun ho => by cases ho) (fun _ => ?_)
        refine LW.skip rfl rfl ?_
        refine LW.skip rfl rfl ?_
        refine LW.skip rfl rfl ?_
        refine LW.skip rfl rfl ?_
        refine LW.skip rfl rfl ?_
        refine LW.skip rfl rfl ?_
        refine LW.skip rfl rfl ?_
        refine LW.skip rfl rfl ?_
        first | refine LW.opV (ov_pickT rfl rfl) rfl rfl ?_ | refine LW.opV (ov_pickF rfl rfl) rfl rfl ?_ | refine LW.opV (ov_pick rfl rfl rfl) rfl rfl ?_
        refine LW.nil ?_
        refine KW.thenN ?_
        refine CW.condF rfl rfl ?_
        refine CW.skip ?_
        refine KW.blockN ?_
        refine KW.thenN ?_
        refine CW.seq ?_
        refine CW.seq ?_
        refine CW.seq ?_
        refine CW.region ?_
        refine LW.opV (ov_fieldAddr fo57_1 rfl) rfl rfl ?_
        refine LW.opV (ov_loadR 8 ta4 rfl rfl rfl) rfl rfl ?_
        refine LW.opV (ov_not rfl) rfl rfl ?_
        refine LW.nil ?_
        refine KW.thenN ?_
        refine CW.condT rfl (rfl) ?_
        refine CW.exit ?_
        refine KW.thenX ?_
        refine KW.thenX ?_
        refine KW.hit ?_
        refine KW.thenN ?_
        exact KW.meet [0, 1, 2, 3, 4, 5, 6, 7, 8] hM ⟨⟨false, [], m, br⟩, none, ad, vn, vc, by simp [feedF, h2], rfl, rfl⟩ ⟨rfl, rfl, rfl, rfl, rfl, trivial⟩ rfl rfl
      · refine KW.fact (p := vn = l.length) (fun w hs => ?_) (fun hvn => ?_)
        · obtain ⟨g, hg, _⟩ := hs.take 3 rfl
          obtain ⟨_, ⟨hv, h0⟩ | ⟨b, c, _, hv, _⟩⟩ := hg l rfl
          · simp at hv; omega
          · simp at hv; omega
        subst hvn
        have hl16 := htl l rfl
        refine CW.exit ?_
        refine KW.thenX ?_
        refine KW.thenX ?_
        refine KW.miss rfl ?_
        refine KW.thenX ?_
        refine KW.miss rfl ?_
        refine KW.thenX ?_
        refine KW.hit ?_
        refine KW.thenN ?_
        refine CW.seq ?_
        refine CW.region ?_
        refine LW.opV (ov_fieldAddr fo57_1 rfl) rfl rfl ?_
        refine LW.opV (ov_loadR 8 ta4 rfl rfl rfl) rfl rfl ?_
        refine LW.opV (ov_move rfl) rfl rfl ?_
        refine KW.split 79 rfl (fun _ => ?_) (fun ho => by cases ho)
        refine LW.opV (ov_fieldAddr fo57_2 rfl) rfl rfl ?_
        refine LW.opV (ov_loadR 8 ta55 rfl rfl rfl) rfl rfl ?_
        refine LW.opV (ov_lenL so55 rfl) rfl rfl ?_
        refine LW.opV (ov_fieldAddr fo34_4 rfl) rfl rfl ?_
        refine LW.opV (ov_loadR 4 ta9 rfl rfl rfl) rfl rfl ?_
        refine LW.opV (ov_lenS un9 rfl) rfl rfl ?_
        first | refine LW.opV (ov_add rfl rfl (by omega)) rfl rfl ?_ | refine LW.opV (ov_addW rfl rfl) rfl rfl ?_
        refine LW.opV (ov_leq rfl rfl) rfl rfl ?_
        first | refine LW.opV (ov_pickT rfl rfl) rfl rfl ?_ | refine LW.opV (ov_pickF rfl rfl) rfl rfl ?_ | refine LW.opV (ov_pick rfl rfl rfl) rfl rfl ?_
        refine LW.nil ?_
        refine KW.thenN ?_
        refine CW.condD (by rfl) (fun hfit => ?_) (fun hfit => ?_)
        · refine KW.turn (As' := [_, _, _, bytesA 5 (.slice ad l.length vc) l, _, _, _, _, _]) (fun w hs => hs.imp 3 rfl (txtX_some rfl)) ?_
          refine CW.seq ?_
          refine CW.draw [3,4] rfl mixed rfl (ls := #[false, false, false, false, false, false, false, false, false, false, false, false]) (by kernel_rfl) ?_
          refine DW.take 0 [3,4] rfl (by kernel_rfl) (by kernel_rfl) (by kernel_rfl) (fun _ _ _ h => h) (ov_fieldAddr fo57_2 rfl) rfl rfl rfl rfl rfl ?_
          refine DW.take 3 [3,4] rfl (by kernel_rfl) (by kernel_rfl) (by kernel_rfl) (fun _ _ _ h => h) (ov_fieldAddr fo34_4 rfl) rfl rfl rfl rfl rfl ?_
          refine DW.take 4 [3,4] rfl (by kernel_rfl) (by kernel_rfl) (by kernel_rfl) (fun _ _ _ h => h) (ov_loadR 1 ta9 rfl rfl rfl) rfl rfl rfl rfl rfl ?_
          refine DW.take 6 [3,4] rfl (by kernel_rfl) (by kernel_rfl) (by kernel_rfl) (fun _ _ _ h => h) (ov_fieldAddr fo36_0 rfl) rfl rfl rfl rfl rfl ?_
          refine DW.all2 1 7 (by kernel_rfl) ?_ ?_
          · refine DO.opV [3,4] rfl (ov_loadR 8 ta55 rfl rfl rfl) rfl rfl rfl rfl rfl ?_
            refine DW.take 2 [3,4] rfl (by kernel_rfl) (by kernel_rfl) (by kernel_rfl) (fun _ _ _ h => h) (ov_b2s 0 so55 un9 un5 rfl rfl) rfl rfl rfl rfl rfl ?_
            refine DW.take 5 [3,4] rfl (by kernel_rfl) (by kernel_rfl) (by kernel_rfl) (fun _ _ _ h => h) (ov_strAdd rfl rfl (by first | omega | (simp; omega))) rfl rfl rfl rfl rfl ?_
            refine DW.all1 7 (by kernel_rfl) ?_
            refine DO.opU [3,4] rfl (ou_storeW ta4 rfl rfl (.one rfl) rfl rfl (.h (.n)) (.t (.t (.t (.t (.t (.t (.h)))))))) rfl rfl rfl rfl ?_
            refine DW.take 8 [3,4] rfl (by kernel_rfl) (by kernel_rfl) (by kernel_rfl) (fun _ _ _ h => h) (ov_fieldAddr fo36_1 rfl) rfl rfl rfl rfl rfl ?_
            refine DW.all1 9 (by kernel_rfl) ?_
            refine DO.opU [3,4] rfl (ou_storeW ta9 rfl rfl (.one rfl) rfl rfl (.t (.h (.n))) (.t (.t (.t (.t (.t (.t (.h)))))))) rfl rfl rfl rfl ?_
            refine DW.take 10 [3,4] rfl (by kernel_rfl) (by kernel_rfl) (by kernel_rfl) (fun _ _ _ h => h) (ov_fieldAddr fo57_1 rfl) rfl rfl rfl rfl rfl ?_
            refine DW.all1 11 (by kernel_rfl) ?_
            refine DO.opU [3,4] rfl (ou_storeW ta4 rfl rfl (.one rfl) rfl rfl (.t (.h (.n))) (.t (.t (.t (.t (.t (.t (.t (.t (.h)))))))))) rfl rfl rfl rfl ?_
            refine DW.done (by kernel_rfl) ?_
            refine KW.thenN ?_
            refine CW.exit ?_
            refine KW.miss rfl ?_
            refine KW.thenX ?_
            refine KW.hit ?_
            refine KW.thenN ?_
            refine KW.turn (As' := [_, _, _, txtX none (.slice ad l.length vc), _, _, _, _, _]) (fun w hs => hs.imp 3 rfl (fun g _ l hl => by cases hl)) ?_
            exact KW.meet [0, 1, 2, 3, 4, 5, 6, 7, 8] hM ⟨⟨true, l ++ p.data, m, br⟩, none, ad, l.length, vc, by simp only [feedF, h2]; rw [if_neg (by decide), if_neg (by decide), if_pos ⟨trivial, by omega⟩], rfl, rfl⟩ ⟨rfl, rfl, rfl, rfl, rfl, trivial⟩ rfl rfl
          · refine DO.opU [3,4] rfl (ou_storeW ta4 rfl rfl (.one rfl) rfl rfl (.h (.n)) (.t (.t (.t (.t (.t (.t (.h)))))))) rfl rfl rfl rfl ?_
            refine DW.all1 1 (by kernel_rfl) ?_
            refine DO.opV [3,4] rfl (ov_loadR 8 ta55 rfl rfl rfl) rfl rfl rfl rfl rfl ?_
            refine DW.take 2 [3,4] rfl (by kernel_rfl) (by kernel_rfl) (by kernel_rfl) (fun _ _ _ h => h) (ov_b2s 0 so55 un9 un5 rfl rfl) rfl rfl rfl rfl rfl ?_
            refine DW.take 5 [3,4] rfl (by kernel_rfl) (by kernel_rfl) (by kernel_rfl) (fun _ _ _ h => h) (ov_strAdd rfl rfl (by first | omega | (simp; omega))) rfl rfl rfl rfl rfl ?_
            refine DW.take 8 [3,4] rfl (by kernel_rfl) (by kernel_rfl) (by kernel_rfl) (fun _ _ _ h => h) (ov_fieldAddr fo36_1 rfl) rfl rfl rfl rfl rfl ?_
            refine DW.all1 9 (by kernel_rfl) ?_
            refine DO.opU [3,4] rfl (ou_storeW ta9 rfl rfl (.one rfl) rfl rfl (.t (.h (.n))) (.t (.t (.t (.t (.t (.t (.h)))))))) rfl rfl rfl rfl ?_
            refine DW.take 10 [3,4] rfl (by kernel_rfl) (by kernel_rfl) (by kernel_rfl) (fun _ _ _ h => h) (ov_fieldAddr fo57_1 rfl) rfl rfl rfl rfl rfl ?_
            refine DW.all1 11 (by kernel_rfl) ?_
            refine DO.opU [3,4] rfl (ou_storeW ta4 rfl rfl (.one rfl) rfl rfl (.t (.h (.n))) (.t (.t (.t (.t (.t (.t (.t (.t (.h)))))))))) rfl rfl rfl rfl ?_
            refine DW.done (by kernel_rfl) ?_
            refine KW.thenN ?_
            refine CW.exit ?_
            refine KW.miss rfl ?_
            refine KW.thenX ?_
            refine KW.hit ?_
            refine KW.thenN ?_
            refine KW.turn (As' := [_, _, _, txtX none (.slice ad l.length vc), _, _, _, _, _]) (fun w hs => hs.imp 3 rfl (fun g _ l hl => by cases hl)) ?_
            exact KW.meet [0, 1, 2, 3, 4, 5, 6, 7, 8] hM ⟨⟨true, l ++ p.data, m, br⟩, none, ad, l.length, vc, by simp only [feedF, h2]; rw [if_neg (by decide), if_neg (by decide), if_pos ⟨trivial, by omega⟩], rfl, rfl⟩ ⟨rfl, rfl, rfl, rfl, rfl, trivial⟩ rfl rfl
        · refine CW.skip ?_
          refine KW.blockN ?_
          refine KW.thenN ?_
          refine CW.seq ?_
          refine CW.seq ?_
          refine CW.seq ?_
          refine CW.region ?_
          refine LW.opV (ov_fieldAddr fo57_1 rfl) rfl rfl ?_
          refine LW.opV (ov_loadR 8 ta4 rfl rfl rfl) rfl rfl ?_
          refine LW.opV (ov_not rfl) rfl rfl ?_
          refine LW.nil ?_
          refine KW.thenN ?_
          refine CW.condF rfl (rfl) ?_
          refine KW.turn (As' := [_, _, _, bytesA 5 (.slice ad l.length vc) l, _, _, _, _, _]) (fun w hs => hs.imp 3 rfl (txtX_some rfl)) ?_
          refine CW.skip ?_
          refine KW.thenN ?_
          refine CW.seq ?_
          refine CW.region ?_
          refine LW.opV (ov_fieldAddr fo57_2 rfl) rfl rfl ?_
          refine LW.opV (ov_loadR 8 ta55 rfl rfl rfl) rfl rfl ?_
          refine LW.opV (ov_fieldAddr fo34_4 rfl) rfl rfl ?_
          refine LW.opV (ov_loadR 4 ta9 rfl rfl rfl) rfl rfl ?_
          refine LW.opX (ox_appS so55 zo5 un9 rfl rfl (by omega) (fun _ => (.t (.t (.t (.h)))))) rfl rfl (fun a105 c105 => ?_)
          refine LW.opV (ov_fieldAddr fo57_2 rfl) rfl rfl ?_
          refine LW.opU (ou_storeW ta55 rfl rfl (.one rfl) rfl rfl (.t (.t (.h (.n)))) (.t (.t (.t (.t (.t (.t (.t (.t (.h)))))))))) rfl ?_
          refine LW.nil ?_
          refine KW.thenN ?_
          refine CW.seq ?_
          refine CW.region ?_
          refine LW.opV (ov_fieldAddr fo57_2 rfl) rfl rfl ?_
          refine LW.opV (ov_loadR 8 ta55 rfl rfl rfl) rfl rfl ?_
          refine LW.opV (ov_lenL so55 rfl) rfl rfl ?_
          refine LW.opV (ov_gtr rfl rfl) rfl rfl ?_
          refine LW.nil ?_
          refine KW.thenN ?_
          refine CW.condT rfl (decide_eq_true (by omega)) ?_
          refine CW.region ?_
          refine LW.opV (ov_fieldAddr fo57_1 rfl) rfl rfl ?_
          refine LW.opU (ou_storeW ta4 rfl rfl (.one rfl) rfl rfl (.t (.h (.n))) (.t (.t (.t (.t (.t (.t (.t (.t (.h)))))))))) rfl ?_
          refine LW.opV (ov_fieldAddr fo36_3 rfl) rfl rfl ?_
          refine LW.opU (ou_storeW ta4 rfl rfl (.one rfl) rfl rfl (.t (.t (.t (.h (.n))))) (.t (.t (.t (.t (.t (.t (.h)))))))) rfl ?_
          refine LW.nil ?_
          refine KW.thenN ?_
          refine CW.exit ?_
          refine KW.hit ?_
          refine KW.thenN ?_
          refine KW.turn (As' := [_, _, _, txtX none (.slice a105 (l.length + p.data.length) c105), _, _, _, _, _]) (fun w hs => hs.imp 3 rfl (fun g _ l hl => by cases hl)) ?_
          exact KW.meet [0, 1, 2, 3, 4, 5, 6, 7, 8] hM ⟨⟨false, [], m, true⟩, none, a105, l.length + p.data.length, c105, by simp only [feedF, h2]; rw [if_neg (by decide), if_neg (by decide), if_neg (by omega), if_pos (by omega)], rfl, rfl⟩ ⟨rfl, rfl, rfl, rfl, rfl, trivial⟩ rfl rfl
    have h0 : p.flags = 0 := by omega
    rcases t1 with _ | l
    · refine CW.skip ?_
      refine KW.thenN ?_
      refine CW.seq ?_
      refine CW.region ?_
      refine LW.opV (ov_eql rfl rfl) rfl rfl ?_
      refine LW.opV (ov_assign rfl) rfl rfl ?_
      refine LW.nil ?_
      refine KW.thenN ?_
      refine CW.condT rfl (decide_eq_true h0) ?_
      refine CW.exit ?_
      refine KW.thenX ?_
      refine KW.miss rfl ?_
      refine KW.thenX ?_
      refine KW.miss rfl ?_
      refine KW.thenX ?_
      refine KW.miss rfl ?_
      refine KW.thenX ?_
      refine KW.hit ?_
      refine KW.thenN ?_
      refine CW.seq ?_
      refine CW.seq ?_
      refine CW.seq ?_
      refine CW.region ?_
      refine LW.opV (ov_fieldAddr fo57_1 rfl) rfl rfl ?_
      refine LW.opV (ov_loadR 8 ta4 rfl rfl rfl) rfl rfl ?_
      refine LW.opV (ov_not rfl) rfl rfl ?_
      refine LW.nil ?_
      refine KW.thenN ?_
      refine CW.condT rfl (rfl) ?_
      refine CW.exit ?_
      refine KW.thenX ?_
      refine KW.thenX ?_
      refine KW.hit ?_
      refine KW.thenN ?_
      exact KW.meet [0, 1, 2, 3, 4, 5, 6, 7, 8] hM ⟨⟨false, [], m, br⟩, none, ad, vn, vc, by simp [feedF, h0], rfl, rfl⟩ ⟨rfl, rfl, rfl, rfl, rfl, trivial⟩ rfl rfl
    · refine KW.fact (p := vn = l.length) (fun w hs => ?_) (fun hvn => ?_)
      · obtain ⟨g, hg, _⟩ := hs.take 3 rfl
        obtain ⟨_, ⟨hv, h0⟩ | ⟨b, c, _, hv, _⟩⟩ := hg l rfl
        · simp at hv; omega
        · simp at hv; omega
      subst hvn
      have hl16 := htl l rfl
      refine CW.skip ?_
      refine KW.thenN ?_
      refine CW.seq ?_
      refine CW.region ?_
      refine LW.opV (ov_eql rfl rfl) rfl rfl ?_
      refine LW.opV (ov_assign rfl) rfl rfl ?_
      refine LW.nil ?_
      refine KW.thenN ?_
      refine CW.condT rfl (decide_eq_true h0) ?_
      refine CW.exit ?_
      refine KW.thenX ?_
      refine KW.miss rfl ?_
      refine KW.thenX ?_
      refine KW.miss rfl ?_
      refine KW.thenX ?_
      refine KW.miss rfl ?_
      refine KW.thenX ?_
      refine KW.hit ?_
      refine KW.thenN ?_
      refine CW.seq ?_
      refine CW.seq ?_
      refine CW.seq ?_
      refine CW.region ?_
      refine LW.opV (ov_fieldAddr fo57_1 rfl) rfl rfl ?_
      refine LW.opV (ov_loadR 8 ta4 rfl rfl rfl) rfl rfl ?_
      refine LW.opV (ov_not rfl) rfl rfl ?_
      refine LW.nil ?_
      refine KW.thenN ?_
      refine CW.condF rfl (rfl) ?_
      refine KW.turn (As' := [_, _, _, bytesA 5 (.slice ad l.length vc) l, _, _, _, _, _]) (fun w hs => hs.imp 3 rfl (txtX_some rfl)) ?_
      refine CW.skip ?_
      refine KW.thenN ?_
      refine CW.seq ?_
      refine CW.region ?_
      refine LW.opV (ov_fieldAddr fo57_2 rfl) rfl rfl ?_
      refine LW.opV (ov_loadR 8 ta55 rfl rfl rfl) rfl rfl ?_
      refine LW.opV (ov_fieldAddr fo34_4 rfl) rfl rfl ?_
      refine LW.opV (ov_loadR 4 ta9 rfl rfl rfl) rfl rfl ?_
      refine LW.opX (ox_appS so55 zo5 un9 rfl rfl (by omega) (fun _ => (.t (.t (.t (.h)))))) rfl rfl (fun a105 c105 => ?_)
      refine LW.opV (ov_fieldAddr fo57_2 rfl) rfl rfl ?_
      refine LW.opU (ou_storeW ta55 rfl rfl (.one rfl) rfl rfl (.t (.t (.h (.n)))) (.t (.t (.t (.t (.t (.t (.t (.t (.h)))))))))) rfl ?_
      refine LW.nil ?_
      refine KW.thenN ?_
      refine CW.seq ?_
      refine CW.region ?_
      refine LW.opV (ov_fieldAddr fo57_2 rfl) rfl rfl ?_
      refine LW.opV (ov_loadR 8 ta55 rfl rfl rfl) rfl rfl ?_
      refine LW.opV (ov_lenL so55 rfl) rfl rfl ?_
      refine LW.opV (ov_gtr rfl rfl) rfl rfl ?_
      refine LW.nil ?_
      refine KW.thenN ?_
      refine CW.condD (by rfl) (fun hbig => ?_) (fun hbig => ?_)
      · refine CW.region ?_
        refine LW.opV (ov_fieldAddr fo57_1 rfl) rfl rfl ?_
        refine LW.opU (ou_storeW ta4 rfl rfl (.one rfl) rfl rfl (.t (.h (.n))) (.t (.t (.t (.t (.t (.t (.t (.t (.h)))))))))) rfl ?_
        refine LW.opV (ov_fieldAddr fo36_3 rfl) rfl rfl ?_
        refine LW.opU (ou_storeW ta4 rfl rfl (.one rfl) rfl rfl (.t (.t (.t (.h (.n))))) (.t (.t (.t (.t (.t (.t (.h)))))))) rfl ?_
        refine LW.nil ?_
        refine KW.thenN ?_
        refine CW.exit ?_
        refine KW.hit ?_
        refine KW.thenN ?_
        refine KW.turn (As' := [_, _, _, txtX none (.slice a105 (l.length + p.data.length) c105), _, _, _, _, _]) (fun w hs => hs.imp 3 rfl (fun g _ l hl => by cases hl)) ?_
        exact KW.meet [0, 1, 2, 3, 4, 5, 6, 7, 8] hM ⟨⟨false, [], m, true⟩, none, a105, l.length + p.data.length, c105, by simp only [feedF, h0]; rw [if_neg (by decide), if_neg (by decide), if_neg (by omega), if_pos (by omega)], rfl, rfl⟩ ⟨rfl, rfl, rfl, rfl, rfl, trivial⟩ rfl rfl
      · refine CW.skip ?_
        refine KW.thenN ?_
        refine CW.exit ?_
        refine KW.hit ?_
        refine KW.thenN ?_
        refine KW.turn (As' := [_, _, _, txtX (some (l ++ p.data)) (.slice a105 (l.length + p.data.length) c105), _, _, _, _, _]) (fun w hs => hs.imp 3 rfl (fun g hg l' hl => by cases hl; exact hg)) ?_
        exact KW.meet [0, 1, 2, 3, 4, 5, 6, 7, 8] hM ⟨⟨false, [], m, br⟩, some (l ++ p.data), a105, l.length + p.data.length, c105, by simp only [feedF, h0]; rw [if_neg (by decide), if_neg (by decide), if_neg (by omega), if_neg (by omega)], rfl, rfl⟩ ⟨rfl, rfl, rfl, rfl, rfl, trivial⟩ rfl rfl
  rintro _ _ ⟨pc, t2, ad', vn', vc', hF, rfl, rfl⟩
  refine CW.seq ?_
  refine CW.seq ?_
  refine CW.region ?_
  refine LW.opV (ov_fieldAddr fo57_1 rfl) rfl rfl ?_
  refine LW.opV (ov_loadR 8 ta4 rfl rfl rfl) rfl rfl ?_
  refine LW.opV (ov_not rfl) rfl rfl ?_
  refine LW.nil ?_
  refine KW.thenN ?_
  have hK : feedK (look (stOf L) p.apid) p = (pc, ⟨nx, t2⟩) := by
    simp only [feedK, ← hk0, hfm, hbr, ht1, hF, hnx]
  rw [hK]
  cases t2 with
  | none =>
    refine CW.condT rfl (rfl) ?_
    refine CW.region ?_
    refine LW.opV (ov_fieldAddr fo57_2 rfl) rfl rfl ?_
    refine LW.opU (ou_storeW ta55 rfl rfl (.one rfl) rfl rfl (.t (.t (.h (.n)))) (.t (.t (.t (.t (.t (.t (.t (.t (.h)))))))))) rfl ?_
    refine LW.nil ?_
    refine KW.thenN ?_
    refine CW.seq ?_
    refine CW.draw [1,4,8] rfl mixed rfl (ls := #[false, false, false, false, false, false, false, false]) (by kernel_rfl) ?_
    refine DW.take 0 [1,4,8] rfl (by kernel_rfl) (by kernel_rfl) (by kernel_rfl) (fun _ _ _ h => h) (ov_move rfl) rfl rfl rfl rfl rfl ?_
    first | refine DW.take 1 [1,4,8] rfl (by kernel_rfl) (by kernel_rfl) (by kernel_rfl) (fun _ _ _ h => h) (ov_nilP rfl) rfl rfl rfl rfl rfl ?_ | refine DW.take 1 [1,4,8] rfl (by kernel_rfl) (by kernel_rfl) (by kernel_rfl) (fun _ _ _ h => h) (ov_nilF rfl) rfl rfl rfl rfl rfl ?_
    refine DW.take 2 [1,4,8] rfl (by kernel_rfl) (by kernel_rfl) (by kernel_rfl) (fun _ _ _ h => h) (ov_fieldAddr fo32_0 rfl) rfl rfl rfl rfl rfl ?_
    refine DW.take 3 [1,4,8] rfl (by kernel_rfl) (by kernel_rfl) (by kernel_rfl) (fun _ _ _ h => h) (ov_loadR 0 ta30 rfl rfl rfl) rfl rfl rfl rfl rfl ?_
    refine DW.take 4 [1,4,8] rfl (by kernel_rfl) (by kernel_rfl) (by kernel_rfl) (fun _ _ _ h => h) (ov_fieldAddr fo34_1 rfl) rfl rfl rfl rfl rfl ?_
    refine DW.take 5 [1,4,8] rfl (by kernel_rfl) (by kernel_rfl) (by kernel_rfl) (fun _ _ _ h => h) (ov_loadR 1 ta3 rfl rfl rfl) rfl rfl rfl rfl rfl ?_
    refine DW.take 6 [1,4,8] rfl (by kernel_rfl) (by kernel_rfl) (by kernel_rfl) (fun _ _ _ h => h) (ov_loadAR 2 ta57 rfl rfl (.h (.h (.h (.n))))) rfl rfl rfl rfl rfl ?_
    refine DW.all1 7 (by kernel_rfl) ?_
    refine DO.opU [1,4,8] rfl (ou_mapSet un30 un3 rfl rfl rfl (.t (.t (.h)))) rfl rfl rfl rfl ?_
    refine DW.done (by kernel_rfl) ?_
    refine KW.thenN ?_
    refine CW.seq ?_
    refine CW.region ?_
    refine LW.opV (ov_loadAR 6 ta36 rfl rfl (.h (.h (.h (.h (.n)))))) rfl rfl ?_
    refine LW.opU (ou_storeW ta36 rfl rfl .agg rfl rfl (.h (.h (.h (.h (.n))))) (.t (.t (.t (.t (.t (.h))))))) rfl ?_
    refine LW.opV (ov_assign rfl) rfl rfl ?_
    refine LW.nil ?_
    refine KW.thenN ?_
    refine CW.ret ?_
    exact KW.retE (.cons (ResV.cellA 5 ta36 rfl rfl (.h (.h (.h (.h .n))))) (.cons (.tmp rfl) .nil)) fun w hs hw => ⟨_, ⟨rfl, rfl⟩, close_ent (k' := ⟨nx, none⟩) (v' := nilv) (hjn _ _) ((hs.imp 3 rfl (B := txtA ⟨nx, none⟩ nilv) (fun _ _ => .inl ⟨rfl, rfl⟩)).picks [0, 1, 2, 3, 7] rfl), hw⟩
  | some l =>
    refine CW.condF rfl (rfl) ?_
    refine CW.skip ?_
    refine KW.thenN ?_
    refine CW.seq ?_
    refine CW.draw [1,4,8] rfl mixed rfl (ls := #[false, false, false, false, false, false, false, false]) (by kernel_rfl) ?_
    refine DW.take 0 [1,4,8] rfl (by kernel_rfl) (by kernel_rfl) (by kernel_rfl) (fun _ _ _ h => h) (ov_move rfl) rfl rfl rfl rfl rfl ?_
    first | refine DW.take 1 [1,4,8] rfl (by kernel_rfl) (by kernel_rfl) (by kernel_rfl) (fun _ _ _ h => h) (ov_nilP rfl) rfl rfl rfl rfl rfl ?_ | refine DW.take 1 [1,4,8] rfl (by kernel_rfl) (by kernel_rfl) (by kernel_rfl) (fun _ _ _ h => h) (ov_nilF rfl) rfl rfl rfl rfl rfl ?_
    refine DW.take 2 [1,4,8] rfl (by kernel_rfl) (by kernel_rfl) (by kernel_rfl) (fun _ _ _ h => h) (ov_fieldAddr fo32_0 rfl) rfl rfl rfl rfl rfl ?_
    refine DW.take 3 [1,4,8] rfl (by kernel_rfl) (by kernel_rfl) (by kernel_rfl) (fun _ _ _ h => h) (ov_loadR 0 ta30 rfl rfl rfl) rfl rfl rfl rfl rfl ?_
    refine DW.take 4 [1,4,8] rfl (by kernel_rfl) (by kernel_rfl) (by kernel_rfl) (fun _ _ _ h => h) (ov_fieldAddr fo34_1 rfl) rfl rfl rfl rfl rfl ?_
    refine DW.take 5 [1,4,8] rfl (by kernel_rfl) (by kernel_rfl) (by kernel_rfl) (fun _ _ _ h => h) (ov_loadR 1 ta3 rfl rfl rfl) rfl rfl rfl rfl rfl ?_
    refine DW.take 6 [1,4,8] rfl (by kernel_rfl) (by kernel_rfl) (by kernel_rfl) (fun _ _ _ h => h) (ov_loadAR 2 ta57 rfl rfl (.h (.h (.h (.n))))) rfl rfl rfl rfl rfl ?_
    refine DW.all1 7 (by kernel_rfl) ?_
    refine DO.opU [1,4,8] rfl (ou_mapSet un30 un3 rfl rfl rfl (.t (.t (.h)))) rfl rfl rfl rfl ?_
    refine DW.done (by kernel_rfl) ?_
    refine KW.thenN ?_
    refine CW.seq ?_
    refine CW.region ?_
    refine LW.opV (ov_loadAR 6 ta36 rfl rfl (.h (.h (.h (.h (.n)))))) rfl rfl ?_
    refine LW.opU (ou_storeW ta36 rfl rfl .agg rfl rfl (.h (.h (.h (.h (.n))))) (.t (.t (.t (.t (.t (.h))))))) rfl ?_
    refine LW.opV (ov_assign rfl) rfl rfl ?_
    refine LW.nil ?_
    refine KW.thenN ?_
    refine CW.ret ?_
    exact KW.retE (.cons (ResV.cellA 5 ta36 rfl rfl (.h (.h (.h (.h .n))))) (.cons (.tmp rfl) .nil)) fun w hs hw => ⟨_, ⟨rfl, rfl⟩, close_ent (k' := ⟨nx, some l⟩) (v' := .slice ad' vn' vc') (hjn _ _) ((hs.imp 3 rfl (B := txtA ⟨nx, some l⟩ (.slice ad' vn' vc')) (fun g hg => .inr ⟨l, rfl, hg l rfl⟩)).picks [0, 1, 2, 3, 7] rfl), hw⟩
end Sx
end Go.Proofs.Ytkofbanncacamaa
