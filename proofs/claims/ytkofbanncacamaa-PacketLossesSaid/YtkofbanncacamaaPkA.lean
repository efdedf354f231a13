/- Package packet: contracts of the small functions. -/
import Derived.Test.YtkofbanncacamaaTy
namespace Go.Proofs.Ytkofbanncacamaa
namespace Sx

structure Pk where
  cmd : Bool
  apid : Int
  flags : Int
  count : Int
  data : List UInt8
abbrev pkv (p : Pk) : Value := .agg #[.bool p.cmd, .int .i64 p.apid, .int .i64 p.flags, .int .i64 p.count, S p.data]
def Pk.ok (p : Pk) : Prop := 0 ≤ p.apid ∧ p.apid ≤ 2047 ∧ 0 ≤ p.flags ∧ p.flags ≤ 3 ∧ 0 ≤ p.count ∧ p.count ≤ 16383 ∧ 1 ≤ p.data.length ∧ p.data.length ≤ 1024
instance (p : Pk) : Decidable p.ok := by unfold Pk.ok; exact inferInstance

theorem Valid_ok (p : Pk) : Fn Try.prog 18 #[pkv p] [] (Ret fun v Q => v = .bool (decide p.ok) ∧ Q = []) := by
  refine Fn.of (args := _) Try.func18 rfl Try.ntmps18 rfl ?_
  intro w0 g0
  refine CW.seq ?_
  refine CW.region ?_
  refine LW.opBA (ob_box rfl .agg (fun _ => .c (.n))) rfl rfl (fun b1 => ?_)
  refine LW.opV (ov_assign rfl) rfl rfl ?_
  refine LW.nil ?_
  refine KW.thenN ?_
  refine CW.seq ?_
  refine CW.block ?_
  refine CW.seq ?_
  refine CW.seq ?_
  refine CW.region ?_
  refine LW.opV (ov_fieldAddr fo34_1 rfl) rfl rfl ?_
  refine LW.opV (ov_loadR 1 ta3 rfl rfl rfl) rfl rfl ?_
  refine LW.opV (ov_lss rfl rfl) rfl rfl ?_
  refine LW.opV (ov_assign rfl) rfl rfl ?_
  refine LW.nil ?_
  refine KW.thenN ?_
  have no : ¬ p.ok → Value.bool false = .bool (decide p.ok) := fun h => congrArg Value.bool (decide_eq_false h).symm
  unfold Pk.ok at no
  refine CW.condD (by rfl) (fun h => ?_) (fun h => ?_)
  · refine CW.skip ?_
    refine KW.thenN ?_
    refine CW.condT rfl (decide_eq_true h) ?_
    refine CW.seq ?_
    refine CW.region ?_
    refine LW.opV (ov_assign rfl) rfl rfl ?_
    refine LW.nil ?_
    refine KW.thenN ?_
    refine CW.ret ?_
    refine KW.blockR ?_
    refine KW.thenR ?_
    exact KW.retF (.cons (.tmp rfl) .nil) [] rfl rfl ⟨no (by omega), rfl⟩
  · refine CW.seq ?_
    refine CW.region ?_
    refine LW.opV (ov_fieldAddr fo34_1 rfl) rfl rfl ?_
    refine LW.opV (ov_loadR 1 ta3 rfl rfl rfl) rfl rfl ?_
    refine LW.opV (ov_gtr rfl rfl) rfl rfl ?_
    refine LW.opV (ov_assign rfl) rfl rfl ?_
    refine LW.nil ?_
    refine KW.thenN ?_
    refine CW.condD (by rfl) (fun h => ?_) (fun h => ?_)
    · refine CW.skip ?_
      refine KW.thenN ?_
      refine CW.condT rfl (decide_eq_true h) ?_
      refine CW.seq ?_
      refine CW.region ?_
      refine LW.opV (ov_assign rfl) rfl rfl ?_
      refine LW.nil ?_
      refine KW.thenN ?_
      refine CW.ret ?_
      refine KW.blockR ?_
      refine KW.thenR ?_
      exact KW.retF (.cons (.tmp rfl) .nil) [] rfl rfl ⟨no (by omega), rfl⟩
    · refine CW.seq ?_
      refine CW.region ?_
      refine LW.opV (ov_fieldAddr fo34_2 rfl) rfl rfl ?_
      refine LW.opV (ov_loadR 1 ta3 rfl rfl rfl) rfl rfl ?_
      refine LW.opV (ov_lss rfl rfl) rfl rfl ?_
      refine LW.opV (ov_assign rfl) rfl rfl ?_
      refine LW.nil ?_
      refine KW.thenN ?_
      refine CW.condD (by rfl) (fun h => ?_) (fun h => ?_)
      · refine CW.skip ?_
        refine KW.thenN ?_
        refine CW.condT rfl (decide_eq_true h) ?_
        refine CW.seq ?_
        refine CW.region ?_
        refine LW.opV (ov_assign rfl) rfl rfl ?_
        refine LW.nil ?_
        refine KW.thenN ?_
        refine CW.ret ?_
        refine KW.blockR ?_
        refine KW.thenR ?_
        exact KW.retF (.cons (.tmp rfl) .nil) [] rfl rfl ⟨no (by omega), rfl⟩
      · refine CW.region ?_
        refine LW.opV (ov_fieldAddr fo34_2 rfl) rfl rfl ?_
        refine LW.opV (ov_loadR 1 ta3 rfl rfl rfl) rfl rfl ?_
        refine LW.opV (ov_gtr rfl rfl) rfl rfl ?_
        refine LW.opV (ov_assign rfl) rfl rfl ?_
        refine LW.nil ?_
        refine KW.thenN ?_
        refine CW.condD (by rfl) (fun h => ?_) (fun h => ?_)
        · refine CW.seq ?_
          refine CW.region ?_
          refine LW.opV (ov_assign rfl) rfl rfl ?_
          refine LW.nil ?_
          refine KW.thenN ?_
          refine CW.ret ?_
          refine KW.blockR ?_
          refine KW.thenR ?_
          exact KW.retF (.cons (.tmp rfl) .nil) [] rfl rfl ⟨no (by omega), rfl⟩
        · refine CW.seq ?_
          refine CW.seq ?_
          refine CW.region ?_
          refine LW.opV (ov_fieldAddr fo34_3 rfl) rfl rfl ?_
          refine LW.opV (ov_loadR 1 ta3 rfl rfl rfl) rfl rfl ?_
          refine LW.opV (ov_lss rfl rfl) rfl rfl ?_
          refine LW.opV (ov_assign rfl) rfl rfl ?_
          refine LW.nil ?_
          refine KW.thenN ?_
          refine CW.condD (by rfl) (fun h => ?_) (fun h => ?_)
          · refine CW.skip ?_
            refine KW.thenN ?_
            refine CW.condT rfl (decide_eq_true h) ?_
            refine CW.seq ?_
            refine CW.region ?_
            refine LW.opV (ov_assign rfl) rfl rfl ?_
            refine LW.nil ?_
            refine KW.thenN ?_
            refine CW.ret ?_
            refine KW.blockR ?_
            refine KW.thenR ?_
            exact KW.retF (.cons (.tmp rfl) .nil) [] rfl rfl ⟨no (by omega), rfl⟩
          · refine CW.seq ?_
            refine CW.region ?_
            refine LW.opV (ov_fieldAddr fo34_3 rfl) rfl rfl ?_
            refine LW.opV (ov_loadR 1 ta3 rfl rfl rfl) rfl rfl ?_
            refine LW.opV (ov_gtr rfl rfl) rfl rfl ?_
            refine LW.opV (ov_assign rfl) rfl rfl ?_
            refine LW.nil ?_
            refine KW.thenN ?_
            refine CW.condD (by rfl) (fun h => ?_) (fun h => ?_)
            · refine CW.skip ?_
              refine KW.thenN ?_
              refine CW.condT rfl (decide_eq_true h) ?_
              refine CW.seq ?_
              refine CW.region ?_
              refine LW.opV (ov_assign rfl) rfl rfl ?_
              refine LW.nil ?_
              refine KW.thenN ?_
              refine CW.ret ?_
              refine KW.blockR ?_
              refine KW.thenR ?_
              exact KW.retF (.cons (.tmp rfl) .nil) [] rfl rfl ⟨no (by omega), rfl⟩
            · refine CW.seq ?_
              refine CW.region ?_
              refine LW.opV (ov_fieldAddr fo34_4 rfl) rfl rfl ?_
              refine LW.opV (ov_loadR 1 ta9 rfl rfl rfl) rfl rfl ?_
              refine LW.opV (ov_strEql rfl rfl) rfl rfl ?_
              refine LW.opV (ov_assign rfl) rfl rfl ?_
              refine LW.nil ?_
              refine KW.thenN ?_
              refine CW.condD (by rfl) (fun h => ?_) (fun h => ?_)
              · refine CW.skip ?_
                refine KW.thenN ?_
                refine CW.condT rfl (decide_eq_true h) ?_
                refine CW.seq ?_
                refine CW.region ?_
                refine LW.opV (ov_assign rfl) rfl rfl ?_
                refine LW.nil ?_
                refine KW.thenN ?_
                refine CW.ret ?_
                refine KW.blockR ?_
                refine KW.thenR ?_
                exact KW.retF (.cons (.tmp rfl) .nil) [] rfl rfl ⟨no (by rw [h]; simp), rfl⟩
              · have hp := List.length_pos_iff.2 h
                refine CW.region ?_
                refine LW.opV (ov_fieldAddr fo34_4 rfl) rfl rfl ?_
                refine LW.opV (ov_loadR 1 ta9 rfl rfl rfl) rfl rfl ?_
                refine LW.opV (ov_lenS un9 rfl) rfl rfl ?_
                refine LW.opV (ov_gtr rfl rfl) rfl rfl ?_
                refine LW.opV (ov_assign rfl) rfl rfl ?_
                refine LW.nil ?_
                refine KW.thenN ?_
                refine CW.condD (by rfl) (fun h => ?_) (fun h => ?_)
                · refine CW.seq ?_
                  refine CW.region ?_
                  refine LW.opV (ov_assign rfl) rfl rfl ?_
                  refine LW.nil ?_
                  refine KW.thenN ?_
                  refine CW.ret ?_
                  refine KW.blockR ?_
                  refine KW.thenR ?_
                  exact KW.retF (.cons (.tmp rfl) .nil) [] rfl rfl ⟨no (by omega), rfl⟩
                · refine CW.skip ?_
                  refine KW.blockN ?_
                  refine KW.thenN ?_
                  refine CW.seq ?_
                  refine CW.region ?_
                  refine LW.opV (ov_assign rfl) rfl rfl ?_
                  refine LW.nil ?_
                  refine KW.thenN ?_
                  refine CW.ret ?_
                  exact KW.retF (.cons (.tmp rfl) .nil) [] rfl rfl ⟨congrArg Value.bool (decide_eq_true (by unfold Pk.ok; omega)).symm, rfl⟩
end Sx
end Go.Proofs.Ytkofbanncacamaa
