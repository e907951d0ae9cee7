import Derived.Test.YtddhaagfieldfaaHd0
namespace Go.Proofs.Ytddhaagfieldfaa.Hb
set_option linter.unusedVariables false
set_option linter.unusedSimpArgs false
open Go.RowKit Go.Proofs.YtddhaagfieldfaaW.PrintWords Go.Proofs.YtddhaagfieldfaaW.PrintLast Go.Proofs.YtddhaagfieldfaaW.PrintMore Go.Proofs.Ytddhaagfieldfaa.PCallTells Go.Proofs.Ytddhaagfieldfaa.Hw Go.Proofs.Ytddhaagfieldfaa.Q
attribute [local go_sem] run_store_v1 max2_int min2_int max_two min_two max_three min_three max_four min_four

def plE (d : Int) : S79 := ⟨⟨.string ⟨#[]⟩, rfl⟩, V1.z, V1.z, V1.z, ⟨.slice none 0 0, rfl⟩, ⟨.slice none 0 0, rfl⟩, V1.z, V1.z, d, 0, V1.z, ⟨.slice none 0 0, rfl⟩⟩
def plS : List S79 := [plE 2, plE 2, plE (-1), plE (-1)]
def roE (a b c : Int) : S39 := ⟨a, 0, 0, b, c, 0, 0, 0, 0⟩
def roS : List S39 := [roE 1 2 30, roE 2 0 8, roE 3 1 8, roE 4 3 3]
def grS : List S53 := (dayF plS roS [10, 20, 5, 9]).1
def leS : List Int := (dayF plS roS [10, 20, 5, 9]).2
def exS : List S60 := [⟨2, 4⟩, ⟨3, 4⟩]
theorem grS_len : grS.length = 4 := by decide +kernel
theorem shortS : shortTo plS roS grS 4 = [2, 3] := by decide +kernel
theorem stopS1 : stopAll plS roS [10, 20, 5, 9] grS 1 = 2 := by decide +kernel
theorem stopS3 : stopAll plS roS [10, 20, 5, 9] grS 3 = -1 := by decide +kernel
theorem excS : (excTo plS roS [10, 20, 5, 9] grS 4).map (fun x => (x.f0, x.f1)) = [(2, 4), (3, 4)] := by decide +kernel
theorem chkS : checkF plS roS [10, 20, 5, 9] grS exS = true := by decide +kernel
theorem chkS1 : checkF plS roS [10, 20, 5, 9] grS [⟨2, 4⟩] = false := by decide +kernel
end Go.Proofs.Ytddhaagfieldfaa.Hb
