import Derived.Test.YtddhaagfieldfaaHp1
namespace Go.Proofs.Ytddhaagfieldfaa.Pure
open Go.RowKit Go.Proofs.YtddhaagfieldfaaW.PrintWords Go.Proofs.Ytddhaagfieldfaa.PCallTells Go.Proofs.Ytddhaagfieldfaa.Hb Go.Proofs.Ytddhaagfieldfaa.Q
theorem CallStops (pl : List S79) (ro : List S39) (su : List Int) (hf : fewF pl ro [] = true) (hm : modestF su = true) : StopsOK pl ro su := by
  have hpl : pl.length ≤ 16 := by unfold fewF at hf; simp only [Bool.and_eq_true, decide_eq_true_eq] at hf; exact hf.1
  obtain ⟨h1, h2, h3⟩ := day_at pl ro su
  refine ⟨h1, by rw [h2, dayS_length], fun i hi hr hs => ?_⟩
  have hr' : reach pl (rd_T39 ro i).f3 ≠ [] := fun e => hr (by rw [e]; rfl)
  have hs' : litres (dayF pl ro su).1 i < (rd_T39 ro i).f4 := by rw [litres_day pl ro su i hi]; rw [h3 i hi] at hs; exact Int.not_le.1 hs
  obtain ⟨a, b⟩ := day_stop pl ro su hpl hm i hi hr' hs'
  have e : stopAll pl ro su (dayF pl ro su).1 i = stopP pl ro su (dayF pl ro su).1 i := by
    unfold stopAll; rw [if_neg (by omega), if_neg (by omega), Int.toNat_natCast]
  rw [e]
  generalize stopP pl ro su (dayF pl ro su).1 i = s at a b
  obtain ⟨b1, b2⟩ := (stops_iff pl ro su _ i s).1 b
  rw [leftTo_day pl ro su _ (Nat.le_refl _)] at b1
  obtain ⟨s0, s1⟩ := reach_in pl _ s a
  have hg := dayS_good pl ro su hpl hm ro.length s s0
  refine ⟨a, by rw [h2]; omega, fun k hk hkn hkg => ?_⟩
  have hkl : litres (dayF pl ro su).1 k > 0 := by rw [litres_day pl ro su k hkn]; rw [h3 k hkn] at hkg; exact hkg
  unfold futileF
  rw [decide_eq_true s0, decide_eq_true s1, decide_eq_false (b2 k hk hkn hkl)]; rfl
end Go.Proofs.Ytddhaagfieldfaa.Pure
