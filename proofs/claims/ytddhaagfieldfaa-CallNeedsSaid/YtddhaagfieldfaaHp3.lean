import Derived.Test.YtddhaagfieldfaaHs4
namespace Go.Proofs.Ytddhaagfieldfaa.Hb
set_option linter.unusedVariables false
set_option linter.unusedSimpArgs false
open Go.RowKit Go.Proofs.YtddhaagfieldfaaW.PrintWords Go.Proofs.YtddhaagfieldfaaW.PrintLast Go.Proofs.YtddhaagfieldfaaW.PrintMore Go.Proofs.Ytddhaagfieldfaa.PCallTells Go.Proofs.Ytddhaagfieldfaa.Hw Go.Proofs.Ytddhaagfieldfaa.Q

theorem rd53 (xs : List S53) (i : Nat) (h : i < xs.length) : rd_T53 xs i = xs[i] := by simp [rd_T53, h]
/-- Whatever grants are accepted are the day's, as lists. -/
theorem only_eq (pl : List S79) (ro : List S39) (su : List Int) (gr : List S53) (ex : List S60) (hpl : pl.length ≤ 16) (hro : ro.length ≤ 14) (hm : modestF su = true) (h : checkF pl ro su gr ex = true) : gr = (dayF pl ro su).1 := by
  obtain ⟨h1, h2⟩ := check_only pl ro su gr ex hpl hro hm h
  obtain ⟨d1, _, d3⟩ := day_at pl ro su
  refine List.ext_getElem (by omega) fun i hi hj => ?_
  have hn : i < ro.length := by omega
  rw [← rd53 gr i hi, ← rd53 _ i hj]
  obtain ⟨a, b⟩ := h2 i hn
  have hd := d3 i hn
  unfold litres at b
  rw [if_pos hi, if_pos hj] at b
  have a2 : (rd_T53 (dayF pl ro su).1 i).f0 = (rd_T39 ro i).f0 := by rw [hd]
  revert a b a2
  generalize rd_T53 gr i = x
  generalize rd_T53 (dayF pl ro su).1 i = y
  intro a b a2
  obtain ⟨x0, x1⟩ := x
  obtain ⟨y0, y1⟩ := y
  dsimp only at a b a2
  rw [a, b, a2]
theorem check_all (pl : List S79) (ro : List S39) (su : List Int) (hpl : pl.length ≤ 16) (hm : modestF su = true) (more : List S60) :
    checkF pl ro su (dayF pl ro su).1 (more ++ excTo pl ro su (dayF pl ro su).1 ro.length) = true := by
  rw [check_day pl ro su _ hpl hm, List.all_eq_true]
  exact fun x hx => hasX_mem _ x (List.mem_append_right _ hx)
end Go.Proofs.Ytddhaagfieldfaa.Hb
