import Derived.Test.YtddhaagfieldfaaHb6
namespace Go.Proofs.Ytddhaagfieldfaa.Hb
set_option linter.unusedVariables false
set_option linter.unusedSimpArgs false
open Go.RowKit Go.Proofs.YtddhaagfieldfaaW.PrintWords Go.Proofs.YtddhaagfieldfaaW.PrintLast Go.Proofs.YtddhaagfieldfaaW.PrintMore Go.Proofs.Ytddhaagfieldfaa.PCallTells Go.Proofs.Ytddhaagfieldfaa.Hw Go.Proofs.Ytddhaagfieldfaa.Q
attribute [local go_sem] run_store_v1 max2_int min2_int max_two min_two max_three min_three max_four min_four

/-- A day, its addresses left out. -/
def dayD (pl : List S79) (ro : List S39) (su : List Int) (gr : List S53) : DV :=
  ⟨⟨V1.z, V1.z, V1.z, none, 0, pl, V1.z, V1.z, V1.z, V1.z, V1.z, V1.z, V1.z⟩, none, 0, ro, none, 0, reTo pl ro ro.length, none, 0, gotTo ro.length gr ro.length, none, 0, leftTo pl ro gr (left0 pl su) ro.length⟩
def stopP (pl : List S79) (ro : List S39) (su : List Int) (gr : List S53) (i : Nat) : Int := stopF (dayD pl ro su gr) i
def shortP (pl : List S79) (ro : List S39) (gr : List S53) (i : Nat) : Bool := shortF (dayD pl ro [] gr) i gr.length
def laterP (ro : List S39) (gr : List S53) (i : Nat) : List Int := laterF (gotTo ro.length gr ro.length) ro.length i
theorem reTo_mem {pl : List S79} {ro : List S39} {l : List Int} (h : l ∈ reTo pl ro ro.length) : ∃ p, l = reach pl p := by
  unfold reTo at h
  obtain ⟨r, _, rfl⟩ := List.mem_map.1 h
  exact ⟨_, rfl⟩
theorem reTo_short {pl : List S79} {ro : List S39} (hs : pl.length ≤ 1000) : ∀ l ∈ reTo pl ro ro.length, l.length ≤ 1000 := fun l hl => by
  obtain ⟨p, rfl⟩ := reTo_mem hl
  exact Nat.le_trans (nodup_short _ _ (reach_nodup pl p) (reach_in pl p)) hs
theorem reTo_in {pl : List S79} {ro : List S39} {su : List Int} {gr : List S53} : ∀ l ∈ reTo pl ro ro.length, ∀ q ∈ l, 0 ≤ q ∧ q < (leftTo pl ro gr (left0 pl su) ro.length).length := fun l hl q hq => by
  obtain ⟨p, rfl⟩ := reTo_mem hl
  rw [leftTo_length, left0_length]
  exact reach_in pl p q hq
structure Args (b : BV) (A1 : Option Addr) (c1 : Nat) (ro : List S39) (A2 : Option Addr) (c2 : Nat) (su : List Int) (A3 : Option Addr) (c3 : Nat) (gr : List S53) (w : World) : Prop where
  hb : b.In w
  hs : b.pl.length ≤ 1000
  r1 : Kd.C k39 w A1 ro.length ro
  c1 : ro.length ≤ c1
  r2 : Kd.C (Kd.int .i64) w A2 su.length su
  c2 : su.length ≤ c2
  r3 : Kd.C k53 w A3 gr.length gr
  c3 : gr.length ≤ c3
  hro : ro.length ≤ 1000
theorem Args.below {b : BV} {A1 : Option Addr} {c1 : Nat} {ro : List S39} {A2 : Option Addr} {c2 : Nat} {su : List Int} {A3 : Option Addr} {c3 : Nat} {gr : List S53} {w W : World} (h : Args b A1 c1 ro A2 c2 su A3 c3 gr w) (hb : Below w.heap.size w W) : Args b A1 c1 ro A2 c2 su A3 c3 gr W :=
  ⟨h.hb.below hb, h.hs, Kd.C_below h.r1 hb, h.c1, Kd.C_below h.r2 hb, h.c2, Kd.C_below h.r3 hb, h.c3, h.hro⟩
theorem of_calls' (b : BV) (A1 : Option Addr) (c1 : Nat) (ro : List S39) (A2 : Option Addr) (c2 : Nat) (su : List Int) (A3 : Option Addr) (c3 : Nat) (gr : List S53) (w : World) (h : Args b A1 c1 ro A2 c2 su A3 c3 gr w) :
    Calls Try.prog 30 #[b.val, .slice A1 ro.length c1, .slice A2 su.length c2, .slice A3 gr.length c3] w fun e w' => ∃ (A4 : Option Addr) (c4 : Nat) (A5 : Option Addr) (c5 : Nat) (A6 : Option Addr) (c6 : Nat),
      e = .returned (DV.val ⟨b, A1, c1, ro, A4, c4, reTo b.pl ro ro.length, A5, c5, gotTo ro.length gr ro.length, A6, c6, leftTo b.pl ro gr (left0 b.pl su) ro.length⟩) ∧
      DV.In ⟨b, A1, c1, ro, A4, c4, reTo b.pl ro ro.length, A5, c5, gotTo ro.length gr ro.length, A6, c6, leftTo b.pl ro gr (left0 b.pl su) ro.length⟩ w' ∧ Below w.heap.size w w' :=
  of_calls b A1 c1 ro A2 c2 su A3 c3 gr w h.hb h.hs h.r1 h.c1 h.r2 h.c2 h.r3 h.c3 h.hro
/-- A day's value is that of these lists. -/
structure IsDay (d : DV) (pl : List S79) (ro : List S39) (su : List Int) (gr : List S53) : Prop where
  ro_ : d.ro = ro
  l2 : d.re.length = d.ro.length
  l3 : d.got.length = d.ro.length
  sh : ∀ i : Nat, shortP pl ro gr i = shortF d i gr.length
  st : ∀ i : Nat, stopF d i = stopP pl ro su gr i
  la : ∀ i : Nat, laterF d.got d.ro.length i = laterP ro gr i
  re_ : d.re = reTo pl ro ro.length
  got_ : d.got = gotTo ro.length gr ro.length
  left_ : d.left = leftTo pl ro gr (left0 pl su) ro.length
theorem isDay_mk {d : DV} {b : BV} {A1 : Option Addr} {c1 : Nat} {ro : List S39} {A4 : Option Addr} {c4 : Nat} {su : List Int} {gr : List S53} {A5 : Option Addr} {c5 : Nat} {A6 : Option Addr} {c6 : Nat}
    (h : d = ⟨b, A1, c1, ro, A4, c4, reTo b.pl ro ro.length, A5, c5, gotTo ro.length gr ro.length, A6, c6, leftTo b.pl ro gr (left0 b.pl su) ro.length⟩) : IsDay d b.pl ro su gr := by
  subst h
  exact ⟨rfl, reTo_length .., gotTo_length .., fun _ => rfl, fun _ => rfl, fun _ => rfl, rfl, rfl, rfl⟩
theorem IsDay.sh2 {d : DV} {pl : List S79} {ro : List S39} {su : List Int} {gr : List S53} (h : IsDay d pl ro su gr) (hs : pl.length ≤ 1000) : ∀ l ∈ d.re, l.length ≤ 1000 := by
  rw [h.re_]; exact reTo_short hs
theorem IsDay.qs {d : DV} {pl : List S79} {ro : List S39} {su : List Int} {gr : List S53} (h : IsDay d pl ro su gr) : ∀ l ∈ d.re, ∀ q ∈ l, 0 ≤ q ∧ q < d.left.length := by
  rw [h.re_, h.left_]; exact reTo_in
def stopAll (pl : List S79) (ro : List S39) (su : List Int) (gr : List S53) (i : Int) : Int := if i < 0 then -1 else if i ≥ ro.length then -1 else stopP pl ro su gr i.toNat

set_option maxHeartbeats 1000000 in
theorem Stop_calls (b : BV) (A1 : Option Addr) (c1 : Nat) (ro : List S39) (A2 : Option Addr) (c2 : Nat) (su : List Int) (A3 : Option Addr) (c3 : Nat) (gr : List S53) (i : Int) (w : World) (h : Args b A1 c1 ro A2 c2 su A3 c3 gr w) :
    Calls Try.prog 18 #[b.val, .slice A1 ro.length c1, .slice A2 su.length c2, .slice A3 gr.length c3, .int .i64 i] w fun e w' => e = .returned (.int .i64 (stopAll b.pl ro su gr i)) ∧ Below w.heap.size w w' := by
  have H := Aside0.mk h
  clear h
  by_cases h0 : i < 0
  · have d0 : decide (i < 0) = true := decide_eq_true h0
    have HS := Aside0.mk (show stopAll b.pl ro su gr i = -1 by unfold stopAll; rw [if_pos h0])
    go_enter Try.func18, Try.ntmps18
    go_wp2_with ((with_reducible refine gate_dst (N := 5) rfl ?_); refine ev_box rfl rfl b.cs 31 (by go_simp; done) ?_; intro gb w1 BK hgb hb1)
    go_ret
    exact ⟨by rw [HS.out]; rfl, hb1⟩
  · by_cases h1 : i ≥ ro.length
    · have d0 : decide (i < 0) = false := decide_eq_false h0
      have d1 : decide ((ro.length : Int) ≤ i) = true := decide_eq_true h1
      have HS := Aside0.mk (show stopAll b.pl ro su gr i = -1 by unfold stopAll; rw [if_neg h0, if_pos h1])
      go_enter Try.func18, Try.ntmps18
      go_wp2_with ((with_reducible refine gate_dst (N := 5) rfl ?_); refine ev_box rfl rfl b.cs 31 (by go_simp; done) ?_; intro gb w1 BK hgb hb1)
      go_ret
      exact ⟨by rw [HS.out]; rfl, hb1⟩
    · obtain ⟨n, rfl⟩ := Int.eq_ofNat_of_zero_le (show 0 ≤ i by omega)
      have hn : n < ro.length := by omega
      have d0 : decide ((n : Int) < 0) = false := decide_eq_false h0
      have d1 : decide ((ro.length : Int) ≤ (n : Int)) = false := decide_eq_false h1
      have HS := Aside0.mk (show stopAll b.pl ro su gr n = stopP b.pl ro su gr n by unfold stopAll; rw [if_neg h0, if_neg h1, Int.toNat_natCast])
      clear h0 h1
      go_enter Try.func18, Try.ntmps18
      go_wp2_with (first
        | ((with_reducible refine gate_dst (N := 5) rfl ?_); refine ev_box rfl rfl b.cs 31 (by go_simp; done) ?_; intro gb w1 BK hgb hb1)
        | ((with_reducible refine gate_dst (N := 19) rfl ?_); refine wpList_load_row rfl 31 _ rfl gb rfl 31 b.cs (0, 0) _ BK Try.underlying31 rfl (by kernel_rfl) ?_)
        | (go_at_call 30; refine (of_calls' b A1 c1 ro A2 c2 su A3 c3 gr _ (H.out.below hb1)).mono ?_; rintro e w2 ⟨A4, c4, A5, c5, A6, c6, rfl, hd, hb2⟩)
        | (go_at_call 33; refine (stop_calls _ n _ hd hn (by simp [reTo_length]) (by simp [gotTo_length]) H.out.hro (reTo_short H.out.hs) reTo_in).mono ?_; rintro e w3 ⟨rfl, hb3⟩))
      go_ret
      exact ⟨by rw [HS.out]; rfl, below_step (below_step hb1 hb2) hb3⟩
end Go.Proofs.Ytddhaagfieldfaa.Hb
