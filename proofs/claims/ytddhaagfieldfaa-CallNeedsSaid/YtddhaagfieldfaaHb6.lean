import Derived.Test.YtddhaagfieldfaaHb5
namespace Go.Proofs.Ytddhaagfieldfaa.Hb
set_option linter.unusedVariables false
set_option linter.unusedSimpArgs false
open Go.RowKit Go.Proofs.YtddhaagfieldfaaW.PrintWords Go.Proofs.YtddhaagfieldfaaW.PrintLast Go.Proofs.YtddhaagfieldfaaW.PrintMore Go.Proofs.Ytddhaagfieldfaa.PCallTells Go.Proofs.Ytddhaagfieldfaa.Hw Go.Proofs.Ytddhaagfieldfaa.Q
attribute [local go_sem] run_store_v1 max2_int min2_int max_two min_two max_three min_three max_four min_four

theorem C_drewN {α : Type} {d : Kd α} {w : World} {A : Option Addr} {n : Nat} {xs : List α} (h : d.C w A n xs) (m : Nat) : d.C (w.drewN m) A n xs := Kd.C_below h (pw_below_drewN (Below.refl _ _) m)
set_option maxHeartbeats 1000000 in
theorem closure47 (d : DV) (g1 g2 : Nat) (q j : Int) (w : World) (hd : w.heap[g1]? = some (.cells d.cs 63 (0, 0))) (hq : w.heap[g2]? = some (.cells #[.int .i64 q] 3 (0, 0))) (hin : d.In w)
    (h0 : 0 ≤ j) (h1 : j < d.re.length) (hl : ∀ l ∈ d.re, l.length ≤ 1000) :
    Calls Try.prog 47 #[.int .i64 j, .pointer (some ⟨g1, 0, none⟩), .pointer (some ⟨g2, 0, none⟩)] w fun e w' => e = .returned (.bool (decide (q ∈ rd_L9 d.re j))) ∧ Below w.heap.size w w' := by
  obtain ⟨ad, A', c', e1, hx, hc, hC⟩ := at_L9 hin.r2 j h0 h1
  have hl2 : (rd_L9 d.re j).length ≤ 1000 := by
    unfold rd_L9
    have hj : j.toNat < d.re.length := by omega
    rw [List.getD_eq_getElem?_getD, List.getElem?_eq_getElem hj]
    exact hl _ (List.getElem_mem hj)
  have y0 : w.cell? ⟨g1, 12, none⟩ = some (.slice (some ad) d.re.length d.c2) := by
    rw [← e1]; exact (blk_cell hd 12).trans rfl
  have y1 : w.cell? ⟨g2, 0, none⟩ = some (.int .i64 q) := (blk_cell hq 0).trans rfl
  have HC := Aside0.mk hC
  clear hd hq hin hC e1 hl
  generalize rd_L9 d.re j = l at hx hc HC hl2 ⊢
  go_enter Try.func47, Try.ntmps47
  go_wp2
  go_quiet ((go_at_call 28; exact Calls.quiet_of (v := .bool (decide (q ∈ l))) ((Contains_calls _ _ l q _ (C_drewN HC.out _) hc (by omega)).mono fun e w2 hh => ⟨hh.1, hh.2.out⟩)))
  go_wp2
  go_ret
  exact ⟨rfl, pw_below_drewN (Below.refl _ _) _⟩

/-! ### short, later -/
def shortF (d : DV) (i : Nat) (n : Int) : Bool := decide ((i : Int) < n) && (decide (0 < (rd_L9 d.re i).length) && decide (rd d.got i < (rd_T39 d.ro i).f4))
def laterGo (got : List Int) : Nat → Nat → List Int
  | 0, _ => []
  | d + 1, k => if rd got k > 0 then (k : Int) :: laterGo got d (k + 1) else laterGo got d (k + 1)
def laterF (got : List Int) (n i : Nat) : List Int := laterGo got (n - (i + 1)) (i + 1)
theorem laterGo_mem (got : List Int) : ∀ (d k : Nat) (x : Int), x ∈ laterGo got d k ↔ ∃ m : Nat, x = m ∧ k ≤ m ∧ m < k + d ∧ rd got m > 0 := by
  intro d
  induction d with
  | zero => intro k x; simp [laterGo]; intro m _ h1 h2; omega
  | succ d ih =>
    intro k x
    rw [laterGo]
    split
    · rename_i h
      rw [List.mem_cons, ih]
      constructor
      · rintro (rfl | ⟨m, rfl, h1, h2, h3⟩)
        · exact ⟨k, rfl, Nat.le_refl _, by omega, h⟩
        · exact ⟨m, rfl, by omega, by omega, h3⟩
      · rintro ⟨m, rfl, h1, h2, h3⟩
        by_cases e : m = k
        · exact .inl (by rw [e])
        · exact .inr ⟨m, rfl, by omega, by omega, h3⟩
    · rename_i h
      rw [ih]
      constructor
      · rintro ⟨m, rfl, h1, h2, h3⟩; exact ⟨m, rfl, by omega, by omega, h3⟩
      · rintro ⟨m, rfl, h1, h2, h3⟩
        by_cases e : m = k
        · subst e; exact absurd h3 h
        · exact ⟨m, rfl, by omega, by omega, h3⟩
theorem laterF_mem (got : List Int) (n i : Nat) (x : Int) : x ∈ laterF got n i ↔ ∃ m : Nat, x = m ∧ i < m ∧ m < n ∧ rd got m > 0 := by
  unfold laterF
  rw [laterGo_mem]
  constructor
  · rintro ⟨m, rfl, h1, h2, h3⟩; exact ⟨m, rfl, by omega, by omega, h3⟩
  · rintro ⟨m, rfl, h1, h2, h3⟩; exact ⟨m, rfl, by omega, by omega, h3⟩
theorem laterGo_length (got : List Int) : ∀ (d k : Nat), (laterGo got d k).length ≤ d := by
  intro d
  induction d with
  | zero => intro k; simp [laterGo]
  | succ d ih =>
    intro k
    rw [laterGo]
    have := ih (k + 1)
    split
    · rw [List.length_cons]; omega
    · omega
theorem laterF_length (got : List Int) (n i : Nat) : (laterF got n i).length ≤ n := by
  have := laterGo_length got (n - (i + 1)) (i + 1)
  unfold laterF; omega
theorem short_calls (d : DV) (i : Nat) (n : Int) (w : World) (hin : d.In w) (h1 : i < d.ro.length) (h2 : d.re.length = d.ro.length) (h3 : d.got.length = d.ro.length) :
    Calls Try.prog 31 #[d.val, .int .i64 i, .int .i64 n] w fun e w' => e = .returned (.bool (shortF d i n)) ∧ Below w.heap.size w w' := by
  refine call_day_short.calls d.b.f0 d.b.f1 d.b.f2 d.b.A d.b.c d.b.pl d.b.f4 d.b.f5 d.b.f6 d.b.f7 d.b.f8 d.b.f9 d.b.f10 d.A1 d.c1 d.ro d.A2 d.c2 d.re d.A3 d.c3 d.got d.A4 d.c4 d.left i n (shortF d i n) w hin.hb.hr hin.hb.hc hin.r1 hin.c1 hin.r2 hin.c2 hin.r3 hin.c3 hin.r4 hin.c4 ?_
  unfold call_day_short.f shortF
  by_cases hn : (i : Int) < n
  · rw [if_pos hn, if_pos (by omega), if_pos (by omega)]
    by_cases hp : ((rd_L9 d.re i).length : Int) > 0
    · rw [if_pos hp, if_pos (by omega), if_pos (by omega), decide_eq_true hn, decide_eq_true (show 0 < (rd_L9 d.re i).length by omega)]; rfl
    · rw [if_neg hp, decide_eq_true hn, decide_eq_false (show ¬ 0 < (rd_L9 d.re i).length by omega)]; rfl
  · rw [if_neg hn, decide_eq_false hn]; rfl
theorem later_ev (d : DV) (h3 : d.got.length = d.ro.length) (hro : d.ro.length ≤ 1000) (n : Nat) : ∀ (k : Nat) (out : List Int), d.ro.length - k = n → k ≤ d.ro.length → out.length ≤ k →
    Ev (fun F => call_day_later.l0 F out (k : Int) d.b.f0 d.b.f1 d.b.f2 d.b.pl d.b.f4 d.b.f5 d.b.f6 d.b.f7 d.b.f8 d.b.f9 d.b.f10 d.ro d.re d.got d.left) (out ++ laterGo d.got n k) := by
  induction n with
  | zero =>
    intro k out hd hk ho
    refine Ev.step (f := fun _ => some out) (fun F => ?_) ?_
    · simp only [call_day_later.l0]; rw [if_neg (by omega)]
    · rw [laterGo, List.append_nil]; exact Ev.now _
  | succ n ih =>
    intro k out hd hk ho
    by_cases hp : rd d.got k > 0
    · have key := ih (k + 1) (out ++ [(k : Int)]) (by omega) (by omega) (by simp; omega)
      have e : out ++ laterGo d.got (n + 1) k = out ++ [(k : Int)] ++ laterGo d.got n (k + 1) := by rw [laterGo, if_pos hp]; simp
      rw [e]
      refine Ev.step (fun F => ?_) key
      simp only [call_day_later.l0]
      rw [if_pos (by omega), if_pos (by omega), if_pos (by omega), if_pos hp, if_pos (by omega), w64 (by omega) (by omega)]; rfl
    · have key := ih (k + 1) out (by omega) (by omega) (by omega)
      have e : out ++ laterGo d.got (n + 1) k = out ++ laterGo d.got n (k + 1) := by rw [laterGo, if_neg hp]
      rw [e]
      refine Ev.step (fun F => ?_) key
      simp only [call_day_later.l0]
      rw [if_pos (by omega), if_pos (by omega), if_pos (by omega), if_neg hp, w64 (by omega) (by omega)]; rfl
theorem later_calls (d : DV) (i : Nat) (w : World) (hin : d.In w) (h1 : i < d.ro.length) (h3 : d.got.length = d.ro.length) (hro : d.ro.length ≤ 1000) :
    Calls Try.prog 34 #[d.val, .int .i64 i] w fun e w' => ∃ v, e = .returned v ∧ Kd.R (Kd.int .i64) 3 w' w.heap.size (fun _ => True) v (laterF d.got d.ro.length i) ∧ Below w.heap.size w w' := by
  have key := later_ev d h3 hro (d.ro.length - (i + 1)) (i + 1) [] rfl (by omega) (by simp)
  rw [List.nil_append] at key
  obtain ⟨k, h⟩ := key.rounds
  refine call_day_later.calls k d.b.f0 d.b.f1 d.b.f2 d.b.A d.b.c d.b.pl d.b.f4 d.b.f5 d.b.f6 d.b.f7 d.b.f8 d.b.f9 d.b.f10 d.A1 d.c1 d.ro d.A2 d.c2 d.re d.A3 d.c3 d.got d.A4 d.c4 d.left i (laterF d.got d.ro.length i) w hin.hb.hr hin.hb.hc hin.r1 hin.c1 hin.r2 hin.c2 hin.r3 hin.c3 hin.r4 hin.c4 ?_
  unfold call_day_later.f
  rw [w64 (by omega) (by omega)]; exact h

/-! ### stop -/
def stops (d : DV) (i : Nat) (q : Int) : Bool := decide (rd d.left q ≤ 0) && !((laterF d.got d.ro.length i).any fun j => decide (q ∈ rd_L9 d.re j))
def stopF (d : DV) (i : Nat) : Int := if idxF (stops d i) (rd_L9 d.re i) < 0 then -1 else rd (rd_L9 d.re i) (idxF (stops d i) (rd_L9 d.re i))
set_option maxHeartbeats 1000000 in
theorem closure46 (d : DV) (g1 g2 : Nat) (i : Nat) (q : Int) (Al : Option Addr) (cl : Nat) (w : World) (hd : w.heap[g1]? = some (.cells d.cs 63 (0, 0))) (hq : w.heap[g2]? = some (.cells #[.slice Al (laterF d.got d.ro.length i).length cl] 29 (0, 0))) (hin : d.In w)
    (hla : Kd.C (Kd.int .i64) w Al (laterF d.got d.ro.length i).length (laterF d.got d.ro.length i)) (h0 : 0 ≤ q) (h1 : q < d.left.length) (hl : ∀ l ∈ d.re, l.length ≤ 1000) (h2 : d.re.length = d.ro.length) (hro : d.ro.length ≤ 1000) :
    Calls Try.prog 46 #[.int .i64 q, .pointer (some ⟨g1, 0, none⟩), .pointer (some ⟨g2, 0, none⟩)] w fun e w' => e = .returned (.bool (stops d i q)) ∧ Below w.heap.size w w' := by
  obtain ⟨ad, e1, hx⟩ := Kd.at_int hin.r4 q h0 h1
  have y0 : w.cell? ⟨g1, 14, none⟩ = some (.slice (some ad) d.left.length d.c4) := by
    rw [← e1]; exact (blk_cell hd 14).trans rfl
  have hlen := laterF_length d.got d.ro.length i
  have HD := Aside0.mk hd
  have HQ := Aside0.mk hq
  have HI := Aside0.mk hin
  have HL := Aside0.mk hla
  have HLL := Aside0.mk hl
  have Y := Aside0.mk (And.intro y0 hx)
  clear hd hq hin hla e1 hl y0 hx
  go_enter Try.func46, Try.ntmps46
  go_upto_region 1 with ((with_reducible refine gate_dst (N := 3) rfl ?_); refine ev_box rfl rfl #[.int .i64 q] 3 (by go_simp; done) ?_; intro g3 w1 BK hg3 hb1)
  have y0 := pw_cell_below hb1 Y.out.1
  have hx := pw_cell_below hb1 Y.out.2
  have y3 : w1.cell? ⟨g3, 0, none⟩ = some (.int .i64 q) := (blk_cell BK 0).trans rfl
  have y4 := pw_cell_below hb1 ((blk_cell HQ.out 0).trans (show _ = some (Value.slice Al (laterF d.got d.ro.length i).length cl) from rfl))
  have BK' := Aside0.mk BK
  have HB := Aside0.mk hb1
  clear BK hb1
  cases hc : decide (rd d.left q ≤ 0) with
  | false =>
    go_wp2
    go_ret
    exact ⟨by simp only [stops, hc, Bool.false_and]; rfl, HB.out⟩
  | true =>
    go_wp2_with (go_at_call 37; refine (ContainsFunc47 g1 g3 Al cl (laterF d.got d.ro.length i) (fun j => decide (q ∈ rd_L9 d.re j)) _ (Kd.C_below HL.out HB.out) (by omega) (fun x hxm W hW => closure47 d g1 g3 q x W (blk_below (blk_below HD.out HB.out) hW) (blk_below BK'.out hW) ((HI.out.below HB.out).below hW) (by obtain ⟨m, rfl, _⟩ := (laterF_mem _ _ _ _).1 hxm; omega) (by obtain ⟨m, rfl, _, hm, _⟩ := (laterF_mem _ _ _ _).1 hxm; omega) HLL.out)).mono ?_; rintro e w2 ⟨rfl, hb2⟩)
    go_ret
    exact ⟨by simp only [stops, hc, Bool.true_and]; rfl, below_step HB.out hb2⟩
theorem idxF_bound {p : Int → Bool} {xs : List Int} (h : ¬ idxF p xs < 0) : ∃ k : Nat, idxF p xs = k ∧ k < xs.length := by
  unfold idxF at h ⊢
  cases e : xs.findIdx? p with
  | none => rw [e] at h; simp at h
  | some k =>
    rw [List.findIdx?_eq_some_iff_getElem] at e
    exact ⟨k, rfl, e.1⟩
set_option maxHeartbeats 2000000 in
theorem stop_calls (d : DV) (i : Nat) (w : World) (hin : d.In w) (h1 : i < d.ro.length) (h2 : d.re.length = d.ro.length) (h3 : d.got.length = d.ro.length) (hro : d.ro.length ≤ 1000) (hl : ∀ l ∈ d.re, l.length ≤ 1000) (hq : ∀ l ∈ d.re, ∀ q ∈ l, 0 ≤ q ∧ q < d.left.length) :
    Calls Try.prog 33 #[d.val, .int .i64 i] w fun e w' => e = .returned (.int .i64 (stopF d i)) ∧ Below w.heap.size w w' := by
  have hi0 : (0 : Int) ≤ (i : Int) := Int.natCast_nonneg _
  have hi1 : (i : Int) < (d.re.length : Int) := by omega
  have hmem : rd_L9 d.re i ∈ d.re := by
    unfold rd_L9
    rw [Int.toNat_natCast, List.getD_eq_getElem?_getD, List.getElem?_eq_getElem (by omega : i < d.re.length)]
    exact List.getElem_mem _
  have hll := hl _ hmem
  have hqq := hq _ hmem
  have HIN := Aside0.mk hin
  have HL := Aside0.mk hl
  have HQ := Aside0.mk hqq
  clear hin hl hq hmem hqq
  go_enter Try.func33, Try.ntmps33
  go_upto_region 2 with (first
    | ((with_reducible refine gate_dst (N := 2) rfl ?_); refine ev_box rfl rfl d.cs 63 (by go_simp; done) ?_; intro g2 w1 BK hg2 hb1)
    | ((with_reducible refine gate_dst (N := 7) rfl ?_); refine wpList_load_row rfl 63 _ rfl g2 rfl 63 d.cs (0, 0) _ BK Try.underlying63 rfl (by kernel_rfl) ?_)
    | (go_at_call 34; refine (later_calls d i _ (HIN.out.below hb1) h1 h3 hro).mono ?_; rintro e w2 ⟨v2, rfl, hR2, hb2⟩; obtain ⟨Al, cl, rfl⟩ := Kd.R_slice hR2)
    | ((with_reducible refine gate_dst (N := 5) rfl ?_); refine ev_box rfl rfl #[.slice none 0 0] 29 (by go_simp; done) ?_; intro g5 w3 BK5 hg5 hb3)
    | (refine ev_put rfl 29 _ _ rfl rfl g5 0 rfl _ rfl rfl 29 _ BK5 (Nat.le_of_ble_eq_true rfl) (by kernel_rfl) ?_; intro w4 BK4 hb4 hk4 hz4))
  have h24 : Below w2.heap.size w2 w4 := below_weaken hb3 (Nat.le_refl _) (hb4 _ hg5)
  have h14 : Below w1.heap.size w1 w4 := below_step hb2 h24
  have h04 : Below w.heap.size w w4 := below_step hb1 h14
  have HB4 := Aside0.mk h04
  have HD4 := Aside0.mk (blk_below BK h14)
  have HG4 := Aside0.mk (show w4.heap[g5]? = some (.cells #[.slice Al (laterF d.got d.ro.length i).length cl] 29 (0, 0)) from BK4)
  have HL4 := Aside0.mk (Kd.C_below (Kd.R_reads' hR2).2.2 h24)
  have HI4 := Aside0.mk (HIN.out.below h04)
  clear h24 h14 h04 BK BK4 BK5 hb1 hb2 hb3 hb4 hk4 hz4 hR2 hg2 hg5
  obtain ⟨ad, A', c', e1, hx, hc, hC⟩ := at_L9 HI4.out.r2 i hi0 hi1
  rw [Int.toNat_natCast] at hx
  have y0 : w4.cell? ⟨g2, 12, none⟩ = some (.slice (some ad) d.re.length d.c2) := by
    rw [← e1]; exact (blk_cell HD4.out 12).trans rfl
  have HC := Aside0.mk hC
  have X := Aside0.mk (And.intro y0 hx)
  clear hC e1
  have hlen := laterF_length d.got d.ro.length i
  by_cases hn : idxF (stops d i) (rd_L9 d.re i) < 0
  · have hn' : decide (idxF (stops d i) (rd_L9 d.re i) < 0) = true := decide_eq_true hn
    have hS : stopF d i = -1 := by unfold stopF; rw [if_pos hn]
    have HS := Aside0.mk hS
    clear hS
    go_wp2_with (go_at_call 45; refine (IndexFunc46 g2 g5 A' c' (rd_L9 d.re i) (stops d i) _ HC.out (by omega) (fun q hqm W hW => closure46 d g2 g5 i q Al cl W (blk_below HD4.out hW) (blk_below HG4.out hW) (HI4.out.below hW) (Kd.C_below HL4.out hW) (HQ.out q hqm).1 (HQ.out q hqm).2 HL.out h2 hro)).mono ?_; rintro e w5 ⟨rfl, hb5⟩)
    go_ret
    exact ⟨by rw [HS.out]; rfl, below_step HB4.out hb5⟩
  · have hn' : decide (idxF (stops d i) (rd_L9 d.re i) < 0) = false := decide_eq_false hn
    obtain ⟨k, hk, hkl⟩ := idxF_bound hn
    have hS : stopF d i = (rd_L9 d.re i)[k] := by unfold stopF; rw [if_neg hn, hk, rd_nat _ _ hkl]
    have HS := Aside0.mk hS
    have HK := Aside0.mk hk
    clear hS hk hn hn'
    go_upto_region 3 with (go_at_call 45; refine (IndexFunc46 g2 g5 A' c' (rd_L9 d.re i) (stops d i) _ HC.out (by omega) (fun q hqm W hW => closure46 d g2 g5 i q Al cl W (blk_below HD4.out hW) (blk_below HG4.out hW) (HI4.out.below hW) (Kd.C_below HL4.out hW) (HQ.out q hqm).1 (HQ.out q hqm).2 HL.out h2 hro)).mono ?_; rintro e w5 ⟨rfl, hb5⟩)
    have y5 := pw_cell_below hb5 X.out.1
    have x5 := pw_cell_below hb5 X.out.2
    have hk0 : (0 : Int) ≤ (k : Int) := Int.natCast_nonneg _
    have hk1 : (k : Int) < ((rd_L9 d.re i).length : Int) := by omega
    obtain ⟨ad2, e2, hx2⟩ := Kd.at_int (Kd.C_below HC.out hb5) k hk0 hk1
    subst e2
    rw [Int.toNat_natCast, rd_nat _ _ hkl] at hx2
    rw [HK.out]
    have hd0 : decide ((k : Int) < 0) = false := by simp
    have HB5 := Aside0.mk hb5
    clear hb5
    go_wp2
    go_ret
    exact ⟨by rw [HS.out]; rfl, below_step HB4.out HB5.out⟩
end Go.Proofs.Ytddhaagfieldfaa.Hb
