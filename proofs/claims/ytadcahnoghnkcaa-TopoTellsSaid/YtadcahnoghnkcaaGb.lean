/- Plain law: what is told of a topology is what the document tells. No conditions. -/
import Derived.Test.YtadcahnoghnkcaaGa
import Derived.Test.YtadcahnoghnkcaaP27x24
namespace Go.Proofs.YtadcahnoghnkcaaX.P27
open Go.RowKit Go.Proofs.YtadcahnoghnkcaaW.PrintWords Go.Proofs.YtadcahnoghnkcaaW.PrintLast Go.Proofs.YtadcahnoghnkcaaW.PrintMore
set_option linter.unusedVariables false
set_option linter.unusedSimpArgs false

theorem tells (l : List S109) (a : Int) : ∃ k, tributarylaw27_TopoTells.f k l a = some true := by
  refine Ev.rounds ?_
  by_cases h : (l.length : Int) > 210
  · exact ev_pos h (Ev.bind awake_ev (Ev.now _))
  · have hl : l.length < 1000 := by omega
    have hv := liveV_len l
    refine ev_neg h (ev_some (ev_pos (by simp; omega) (ev_some ?_)))
    rw [List.nil_append]
    refine Ev.bind (way_ev l hl a) (Ev.bind (rway_ev l hl a) (Ev.bind (ints_ev _ (by have := wayV_len l a; omega)) (ev_pos rfl (ev_pos rfl (Ev.bind (under_ev l hl a) (Ev.bind (runder_ev l hl a) (Ev.bind (ints_ev _ (by have := und_len l a l.length 0; omega)) (ev_pos rfl ?_))))))))
    refine Ev.bind (live_ev l hl) (Ev.bind (rlive_ev l hl) (Ev.bind (ints_ev _ (by omega)) (ev_pos rfl (Ev.bind (height_ev l hl) (Ev.bind (rheight_ev l hl) (ev_pos rfl (Ev.bind (mems_ev l (by omega)) (ev_pos rfl (Ev.bind awake_ev (Ev.now _))))))))))
end Go.Proofs.YtadcahnoghnkcaaX.P27
