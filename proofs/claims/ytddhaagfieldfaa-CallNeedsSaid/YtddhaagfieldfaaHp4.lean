/-
  If the rights have different Ids, no excuse comes twice: without one of them the day's grants are not accepted.
-/
import Derived.Test.YtddhaagfieldfaaHp3
namespace Go.Proofs.Ytddhaagfieldfaa.Hb
set_option linter.unusedVariables false
set_option linter.unusedSimpArgs false
open Go.RowKit Go.Proofs.YtddhaagfieldfaaW.PrintWords Go.Proofs.YtddhaagfieldfaaW.PrintLast Go.Proofs.YtddhaagfieldfaaW.PrintMore Go.Proofs.Ytddhaagfieldfaa.PCallTells Go.Proofs.Ytddhaagfieldfaa.Hw Go.Proofs.Ytddhaagfieldfaa.Q

theorem laterGo_up (got : List Int) : ∀ d k : Nat, (laterGo got d k).Pairwise (· < ·) := by
  intro d
  induction d with
  | zero => intro k; simp [laterGo]
  | succ d ih =>
    intro k
    rw [laterGo]
    split
    · rw [List.pairwise_cons]
      refine ⟨fun x hx => ?_, ih (k + 1)⟩
      obtain ⟨m, rfl, h, _⟩ := (laterGo_mem got d (k + 1) x).1 hx
      omega
    · exact ih (k + 1)
/-- All Ids are different. -/
def Diff (ro : List S39) (n : Nat) : Prop := ∀ j k : Nat, j < k → k < n → (rd_T39 ro j).f0 ≠ (rd_T39 ro k).f0
theorem excTo_pair (pl : List S79) (ro : List S39) (su : List Int) (gr : List S53) (hd : Diff ro ro.length) :
    (excTo pl ro su gr ro.length).Pairwise (fun x y => ¬ (x.f0 = y.f0 ∧ x.f1 = y.f1)) := by
  unfold excTo
  rw [List.pairwise_flatMap]
  constructor
  · intro i hi
    split
    · unfold excAt
      rw [List.pairwise_map]
      have h := laterGo_up (gotTo ro.length gr ro.length) (ro.length - (i + 1)) (i + 1)
      have e : laterP ro gr i = laterGo (gotTo ro.length gr ro.length) (ro.length - (i + 1)) (i + 1) := rfl
      rw [e]
      refine List.Pairwise.imp_of_mem (fun {a b} ha hb hab => ?_) h
      obtain ⟨p, rfl, _, h1, _⟩ := (laterGo_mem _ _ _ _).1 ha
      obtain ⟨q, rfl, _, h2, _⟩ := (laterGo_mem _ _ _ _).1 hb
      rintro ⟨_, h3⟩
      exact hd p q (by omega) (by omega) h3
    · exact List.Pairwise.nil
  · refine List.Pairwise.imp_of_mem (fun {a b} ha hb hab => ?_) (List.pairwise_lt_range (n := ro.length))
    intro x hx y hy
    have f0 : ∀ (i : Nat) (z : S60), z ∈ (if excIs pl ro su gr i = true then excAt ro i (laterP ro gr i) else []) → z.f0 = (rd_T39 ro i).f0 := by
      intro i z hz
      split at hz
      · unfold excAt at hz
        obtain ⟨k, _, rfl⟩ := List.mem_map.1 hz
        rfl
      · cases hz
    rintro ⟨h, _⟩
    rw [f0 a x hx, f0 b y hy] at h
    exact hd a b hab (List.mem_range.1 hb) h
theorem needs (pl : List S79) (ro : List S39) (su : List Int) (hpl : pl.length ≤ 16) (hm : modestF su = true) (hd : Diff ro ro.length) (m : Nat) (hml : m < (excTo pl ro su (dayF pl ro su).1 ro.length).length) :
    checkF pl ro su (dayF pl ro su).1 ((excTo pl ro su (dayF pl ro su).1 ro.length).take m ++ (excTo pl ro su (dayF pl ro su).1 ro.length).drop (m + 1)) = false := by
  have hp := excTo_pair pl ro su (dayF pl ro su).1 hd
  rw [check_day pl ro su _ hpl hm]
  generalize excTo pl ro su (dayF pl ro su).1 ro.length = xs at *
  rw [List.pairwise_iff_getElem] at hp
  rw [List.all_eq_false]
  refine ⟨xs[m], List.getElem_mem hml, fun h => ?_⟩
  unfold hasX at h
  obtain ⟨y, hy, he⟩ := List.any_eq_true.1 h
  rw [Bool.and_eq_true, decide_eq_true_eq, decide_eq_true_eq] at he
  rcases List.mem_append.1 hy with hy | hy
  · obtain ⟨j, hj, rfl⟩ := List.mem_iff_getElem.1 hy
    rw [List.length_take] at hj
    rw [List.getElem_take] at he
    exact hp j m (by omega) hml (by omega) ⟨he.1.symm, he.2.symm⟩
  · obtain ⟨j, hj, rfl⟩ := List.mem_iff_getElem.1 hy
    rw [List.length_drop] at hj
    rw [List.getElem_drop] at he
    exact hp m (m + 1 + j) hml (by omega) (by omega) he
end Go.Proofs.Ytddhaagfieldfaa.Hb
