import Derived.Test.YtemoafemddopcaaLfS
namespace Go.Wk.Lf
open Go.V Go.Proofs
set_option linter.unusedVariables false
set_option linter.unusedSimpArgs false

theorem kk_ok : KOk Go.Proofs.Try.prog KK :=
  Tb.or (KSort_ok (ff := Go.Proofs.Try.f21) KNone_ok Try.sortFile rfl Try.isAgg30 Try.sizeOf30 Try.func21 rfl (by decide))
    (KClosed_ok KNone_ok fun f b h => by
      simp only [List.mem_singleton, Prod.mk.injEq] at h
      obtain ⟨rfl, rfl⟩ := h
      exact evB_sound (k := 4000) (by decide +kernel))
end Go.Wk.Lf
