import Derived.Test.YtcncjldggfbjdaaS6
import Derived.Test.YtcncjldggfbjdaaO2
import Derived.Laws.CopyOwn
namespace Go.Proofs.Ytcncjldggfbjdaa.G1
open Go.RowKit Go.Proofs.Ytcncjldggfbjdaa.PEx Go.Proofs.YtcncjldggfbjdaaW.PrintWords Go.Proofs.YtcncjldggfbjdaaW.PrintLast Go.Proofs.YtcncjldggfbjdaaW.PrintMore Go.Proofs.Ytcncjldggfbjdaa.G2
set_option linter.unusedVariables false
set_option linter.unusedSimpArgs false
attribute [local go_sem] max2_int min2_int max_two min_two max_three min_three max_four min_four

/-- A row is copied into the begin of a row of zeros. -/
theorem ev_copy {ops : Array Oper} {rest : List Oper} {o : Oper} {a : Act} {Q : Exit → Act → World → Prop} {w w0 : World} (hgd : o.guard = none) (d s : Operand)
    (ho : o.op = .call { callee := .builtin .copy, args := #[d, s], argTypes := #[22, 22] }) (g n : Nat) (A : Option Addr) (c : Nat) (l : List Int) (hl : l.length ≤ n) (hd : a.eval d = .slice (some ⟨g, 0, none⟩) n n) (hs : a.eval s = .slice A l.length c)
    (hg : w.heap[g]? = some (.cells (cellsOf (List.replicate n 0)) 3 (0, 0))) (hr : Kd.C (Kd.int .i64) w A l.length l) (hb : Below w0.heap.size w0 w) (hBg : w0.heap.size ≤ g)
    (h : ∀ w', w'.heap[g]? = some (.cells (cellsOf (l ++ List.replicate (n - l.length) 0)) 3 (0, 0)) → Below w0.heap.size w0 w' → wpList Try.prog ops Q rest (a.put o.dst (goInt l.length)) w') :
    wpList Try.prog ops Q (o :: rest) a w := by
  refine wpList_copy_splice hgd d s 22 22 ho 3 Try.underlying22 (by kernel_rfl) (some ⟨g, 0, none⟩) A n n l.length c hd hs g 0 ((List.replicate n (0 : Int)).map (Value.int .i64)) 3 hg (l.map (Value.int .i64)) (by simp [Nat.min_eq_left hl]) ?_ (by simp; omega) (fun v hv => by obtain ⟨x, _, rfl⟩ := List.mem_map.1 hv; rfl) w0.heap.size w0 hb hBg ?_
  · intro hp
    rw [List.length_map] at hp
    obtain ⟨ad, e, _⟩ := Kd.at_int hr 0 (by omega) (by omega)
    subst e
    refine ⟨rfl, ad, rfl, fun j v hv => ?_⟩
    have hj : j < l.length := by
      rcases Nat.lt_or_ge j l.length with h | h
      · exact h
      · rw [List.getElem?_eq_none (by simpa using h)] at hv; cases hv
    obtain ⟨ad', e', hc⟩ := Kd.at_int hr j (by omega) (by omega)
    injection e' with e'
    subst e'
    rw [Int.toNat_natCast, rdn _ _ hj] at hc
    rw [List.getElem?_map, List.getElem?_eq_getElem hj] at hv
    injection hv with hv
    rw [← hv]; exact hc
  · intro w' hw hbw
    rw [List.length_map]
    refine h w' ?_ hbw
    have hw' : w'.heap[g]? = _ := hw
    rw [hw']
    congr 2
    unfold cellsOf
    congr 1
    simp [splice]
def lessTo (l0 l1 : List Int) (k : Nat) : List Int := (List.range l0.length).map fun i => if i < k then wrap64 (l0.getD i 0 - l1.getD i 0) else l0.getD i 0
def lessL (l0 l1 : List Int) : List Int := lessTo l0 l1 l1.length
theorem lessTo_length (l0 l1 : List Int) (k : Nat) : (lessTo l0 l1 k).length = l0.length := by simp [lessTo]
theorem lessTo_at (l0 l1 : List Int) (k i : Nat) (h : i < l0.length) : (lessTo l0 l1 k).getD i 0 = if i < k then wrap64 (l0.getD i 0 - l1.getD i 0) else l0.getD i 0 := by simp [lessTo, h]
theorem lessTo_zero (l0 l1 : List Int) : lessTo l0 l1 0 = l0 := by
  refine O.ext_getD (lessTo_length ..) fun i hi => ?_
  rw [lessTo_length] at hi
  rw [lessTo_at _ _ _ _ hi, if_neg (by omega)]
theorem lessTo_succ (l0 l1 : List Int) (k : Nat) (hk : k < l0.length) : (lessTo l0 l1 k).set k (wrap64 (l0.getD k 0 - l1.getD k 0)) = lessTo l0 l1 (k + 1) := by
  refine O.ext_getD (by simp [lessTo_length]) fun i hi => ?_
  rw [List.length_set, lessTo_length] at hi
  rw [O.getD_set' _ _ _ _ (by rw [lessTo_length]; exact hk), lessTo_at _ _ _ _ hi, lessTo_at _ _ _ _ hi]
  by_cases h : i = k
  · subst h; rw [if_pos rfl, if_pos (by omega)]
  · rw [if_neg h]
    by_cases h2 : i < k
    · rw [if_pos h2, if_pos (by omega)]
    · rw [if_neg h2, if_neg (by omega)]
def pool_less.f (l0 l1 : List Int) : Option (List Int) := if l1.length ≤ l0.length ∧ l0.length ≤ 35184372088832 then some (lessL l0 l1) else none
set_option maxHeartbeats 2000000 in
theorem pool_less.calls (A0 : Option Addr) (c0 : Nat) (l0 : List Int) (A1 : Option Addr) (c1 : Nat) (l1 : List Int) (r : List Int) (w : World) (hr0 : Kd.C (Kd.int .i64) w A0 l0.length l0) (hc0 : l0.length ≤ c0) (hr1 : Kd.C (Kd.int .i64) w A1 l1.length l1) (hc1 : l1.length ≤ c1) (h : pool_less.f l0 l1 = some r) :
    Calls Try.prog 56 #[.slice A0 l0.length c0, .slice A1 l1.length c1] w fun e w' => ∃ v0_ : Value, e = .returned (v0_) ∧ Kd.R (Kd.int .i64) 3 w' w.heap.size (fun _ => True) v0_ r ∧ Below w.heap.size w w' := by
  unfold pool_less.f at h
  by_cases hq : l1.length ≤ l0.length ∧ l0.length ≤ 35184372088832
  · rw [if_pos hq] at h
    injection h with h
    subst h
    obtain ⟨hq1, hq2⟩ := hq
    have HR0 := Aside0.mk hr0
    have HR1 := Aside0.mk hr1
    clear hr0 hr1
    go_enter Try.func56, Try.ntmps56
    go_wp2_with (first
      | ((with_reducible refine gate_dst (N := 10) rfl ?_); refine ev_make rfl rfl _ _ rfl l0.length hq2 (by go_simp; done) (by go_simp; done) ?_; intro g w1 hg hgg hbg)
      | ((with_reducible refine gate_dst (N := 13) rfl ?_); refine ev_copy (w0 := w) rfl _ _ rfl g l0.length A0 c0 l0 (Nat.le_refl _) (by go_simp; done) (by go_simp; done) hg (Kd.C_below HR0.out hbg) hbg hgg ?_; intro w2 hg2 hb2))
    have HG := Aside0.mk (show w2.heap[g]? = some (.cells (cellsOf (lessTo l0 l1 0)) 3 (0, 0)) ∧ Below w.heap.size w w2 from ⟨by rw [hg2, Nat.sub_self, List.replicate_zero, List.append_nil, lessTo_zero], hb2⟩)
    have HGG := Aside0.mk hgg
    clear hg hgg hbg hg2 hb2
    go_loopw [16] (fun v16 W => ∃ k : Nat, v16 = .int .i64 k ∧ Aside0 (k ≤ l1.length ∧ W.heap[g]? = some (.cells (cellsOf (lessTo l0 l1 k)) 3 (0, 0)) ∧ Below w.heap.size w W)) (fun v16 _ => l1.length - (intOf v16).toNat)
    case atStart => exact ⟨0, rfl, ⟨Nat.zero_le _, HG.out.1, HG.out.2⟩⟩
    case round =>
      obtain ⟨k, rfl, hk⟩ := hrel
      by_cases hlt : k < l1.length
      · have hk0 : (0 : Int) ≤ (k : Int) := Int.natCast_nonneg _
        have hk1 : (k : Int) < (l1.length : Int) := by omega
        have hk2 : (k : Int) < (l0.length : Int) := by omega
        obtain ⟨ad, e1, hx⟩ := Kd.at_int (Kd.C_below HR1.out hk.out.2.2) k hk0 hk1
        subst e1
        rw [Int.toNat_natCast, rdn _ _ hlt, ← O.getD_eq _ _ hlt] at hx
        have hz := blk_cell hk.out.2.1 k
        rw [cellsOf_at _ _ (by rw [lessTo_length]; omega), lessTo_at _ _ _ _ (by omega), if_neg (by omega)] at hz
        have HS := Aside0.mk (lessTo_succ l0 l1 k (by omega))
        obtain ⟨x, hx'⟩ : ∃ x, l0.getD k 0 = x := ⟨_, rfl⟩
        obtain ⟨y, hy'⟩ : ∃ y, l1.getD k 0 = y := ⟨_, rfl⟩
        rw [hx'] at hz HS
        rw [hy'] at hx HS
        clear hx' hy'
        go_wp2_with (first
          | (refine ev_put rfl 3 _ _ rfl rfl g k (by go_simp; done) (.int .i64 (wrap64 (x - y))) (by go_simp; done) rfl 3 _ hk.out.2.1 (by rw [cellsOf_size, lessTo_length]; omega) (by kernel_rfl) ?_; intro w3 h1_ h2_ h3_; have HN := Aside0.mk (⟨h1_, h2_ _ HGG.out⟩ : _ ∧ _); clear h1_ h2_ h3_))
        go_roundw
        case rel => exact ⟨k + 1, by go_num, ⟨by omega, by rw [HN.out.1, cellsOf_set, HS.out], below_then hk.out.2.2 HN.out.2⟩⟩
        case measure => simp [intOf] <;> omega
      · obtain rfl : k = l1.length := by have := hk.out.1; omega
        go_wp2
        go_ret
        exact ⟨_, rfl, R_block _ (lessTo_length ..) (by unfold maxLen; omega) hk.out.2.1 HGG.out, hk.out.2.2⟩
  · rw [if_neg hq] at h; cases h
theorem below_drew' {B m : Nat} {w W : World} (h : Below B w W) : Below B w (W.drewN m) := ⟨h.os, h.tape, h.output, h.size, h.block⟩
/-- A sum that stops at the ends. -/
def addS (a b : Int) : Int := if a + b > 9223372036854775807 then 9223372036854775807 else if a + b < -9223372036854775808 then -9223372036854775808 else a + b
theorem addS_R (a b : Int) : i64R (addS a b) = true := by
  rw [i64R_iff]; unfold addS
  split
  · omega
  · split <;> omega
theorem add_now {a b : Int} (ha : i64R a = true) (hb : i64R b = true) : exact_Add.f a b = some (addS a b) := by
  rw [i64R_iff] at ha hb
  unfold exact_Add.f exact_end.f addS
  simp only [Option.bind_some, beq_iff_eq, bne_iff_ne, ne_eq, decide_eq_true_eq, decide_eq_decide]
  by_cases h1 : a < 0 <;> by_cases h2 : b < 0
  · rw [if_pos (by omega)]
    by_cases h3 : a + b < -9223372036854775808
    · rw [if_pos (by unfold wrap64; omega), if_pos h1, if_neg (by omega), if_pos h3]; rfl
    · rw [if_neg (by unfold wrap64; omega), if_neg (by omega), if_neg h3]
      congr 1; unfold wrap64; omega
  · rw [if_neg (by omega), if_neg (by omega), if_neg (by omega)]
    congr 1; unfold wrap64; omega
  · rw [if_neg (by omega), if_neg (by omega), if_neg (by omega)]
    congr 1; unfold wrap64; omega
  · rw [if_pos (by omega)]
    by_cases h3 : a + b > 9223372036854775807
    · rw [if_pos (by unfold wrap64; omega), if_neg h1, if_pos h3]; rfl
    · rw [if_neg (by unfold wrap64; omega), if_neg h3, if_neg (by omega)]
      congr 1; unfold wrap64; omega
def addTo (l0 l1 : List Int) (k : Nat) : List Int := (List.range (max l0.length l1.length)).map fun i => if i < k then addS (l0.getD i 0) (l1.getD i 0) else l0.getD i 0
def addL (l0 l1 : List Int) : List Int := addTo l0 l1 l1.length
theorem addTo_length (l0 l1 : List Int) (k : Nat) : (addTo l0 l1 k).length = max l0.length l1.length := by simp [addTo]
theorem addTo_at (l0 l1 : List Int) (k i : Nat) (h : i < max l0.length l1.length) : (addTo l0 l1 k).getD i 0 = if i < k then addS (l0.getD i 0) (l1.getD i 0) else l0.getD i 0 := by
  unfold addTo
  rw [O.getD_eq _ _ (by simpa using h)]
  simp
theorem addTo_zero (l0 l1 : List Int) : addTo l0 l1 0 = l0 ++ List.replicate (max l0.length l1.length - l0.length) 0 := by
  refine O.ext_getD (by rw [addTo_length, List.length_append, List.length_replicate]; omega) fun i hi => ?_
  rw [addTo_length] at hi
  rw [addTo_at _ _ _ _ hi, if_neg (by omega), List.getD_eq_getElem?_getD, List.getD_eq_getElem?_getD]
  by_cases h : i < l0.length
  · rw [List.getElem?_append_left h]
  · rw [List.getElem?_append_right (by omega), List.getElem?_eq_none (by omega), List.getElem?_replicate]
    split <;> rfl
theorem addTo_succ (l0 l1 : List Int) (k : Nat) (hk : k < l1.length) : (addTo l0 l1 k).set k (addS (l0.getD k 0) (l1.getD k 0)) = addTo l0 l1 (k + 1) := by
  refine O.ext_getD (by simp [addTo_length]) fun i hi => ?_
  rw [List.length_set, addTo_length] at hi
  rw [O.getD_set' _ _ _ _ (by rw [addTo_length]; omega), addTo_at _ _ _ _ hi, addTo_at _ _ _ _ hi]
  by_cases h : i = k
  · subst h; rw [if_pos rfl, if_pos (by omega)]
  · rw [if_neg h]
    by_cases h2 : i < k
    · rw [if_pos h2, if_pos (by omega)]
    · rw [if_neg h2, if_neg (by omega)]
theorem getD_R {l : List Int} (h : l.all i64R = true) (i : Nat) : i64R (l.getD i 0) = true := by
  rw [List.all_eq_true] at h
  by_cases hi : i < l.length
  · rw [O.getD_eq _ _ hi]; exact h _ (List.getElem_mem hi)
  · rw [List.getD_eq_getElem?_getD, List.getElem?_eq_none (by omega)]; rfl
def pool_Add.f (l0 l1 : List Int) : Option (List Int) := if l0.all i64R = true ∧ l1.all i64R = true ∧ l0.length ≤ 35184372088832 ∧ l1.length ≤ 35184372088832 then some (addL l0 l1) else none
set_option maxHeartbeats 2000000 in
theorem pool_Add.calls (A0 : Option Addr) (c0 : Nat) (l0 : List Int) (A1 : Option Addr) (c1 : Nat) (l1 : List Int) (r : List Int) (w : World) (hr0 : Kd.C (Kd.int .i64) w A0 l0.length l0) (hc0 : l0.length ≤ c0) (hr1 : Kd.C (Kd.int .i64) w A1 l1.length l1) (hc1 : l1.length ≤ c1) (h : pool_Add.f l0 l1 = some r) :
    Calls Try.prog 31 #[.slice A0 l0.length c0, .slice A1 l1.length c1] w fun e w' => ∃ v0_ : Value, e = .returned (v0_) ∧ Kd.R (Kd.int .i64) 3 w' w.heap.size (fun _ => True) v0_ r ∧ Below w.heap.size w w' := by
  unfold pool_Add.f at h
  by_cases hq : l0.all i64R = true ∧ l1.all i64R = true ∧ l0.length ≤ 35184372088832 ∧ l1.length ≤ 35184372088832
  · rw [if_pos hq] at h
    injection h with h
    subst h
    obtain ⟨ha0, ha1, hq1, hq2⟩ := hq
    have HR0 := Aside0.mk hr0
    have HR1 := Aside0.mk hr1
    have HA0 := Aside0.mk ha0
    have HA1 := Aside0.mk ha1
    clear hr0 hr1 ha0 ha1
    obtain ⟨n, hn⟩ : ∃ n, max l0.length l1.length = n := ⟨_, rfl⟩
    have HN := Aside0.mk hn
    have hn0 : l0.length ≤ n := by omega
    have hn1 : l1.length ≤ n := by omega
    have hnn : n ≤ 35184372088832 := by omega
    clear hn
    by_cases hc : l0.length < l1.length
    all_goals
      go_enter Try.func31, Try.ntmps31
      go_wp2_with (first
        | ((with_reducible refine gate_dst (N := 13) rfl ?_); refine ev_make rfl rfl _ _ rfl n hnn (by go_simp; have := HN.out; omega) (by go_simp; have := HN.out; omega) ?_; intro g w1 hg hgg hbg)
        | ((with_reducible refine gate_dst (N := 16) rfl ?_); refine ev_copy (w0 := w) rfl _ _ rfl g n A0 c0 l0 hn0 (by go_simp; done) (by go_simp; done) hg (Kd.C_below HR0.out hbg) hbg hgg ?_; intro w2 hg2 hb2))
      have HG := Aside0.mk (show w2.heap[g]? = some (.cells (cellsOf (addTo l0 l1 0)) 3 (0, 0)) ∧ Below w.heap.size w w2 from ⟨by rw [hg2, addTo_zero, HN.out], hb2⟩)
      have HGG := Aside0.mk hgg
      clear hg hgg hbg hg2 hb2
      go_loopw [19] (fun v19 W => ∃ k : Nat, v19 = .int .i64 k ∧ Aside0 (k ≤ l1.length ∧ W.heap[g]? = some (.cells (cellsOf (addTo l0 l1 k)) 3 (0, 0)) ∧ Below w.heap.size w W)) (fun v19 _ => l1.length - (intOf v19).toNat)
      case atStart => exact ⟨0, rfl, ⟨Nat.zero_le _, HG.out.1, HG.out.2⟩⟩
      case round =>
        obtain ⟨k, rfl, hk⟩ := hrel
        by_cases hlt : k < l1.length
        · have hk0 : (0 : Int) ≤ (k : Int) := Int.natCast_nonneg _
          have hk1 : (k : Int) < (l1.length : Int) := by omega
          have hk2 : (k : Int) < (n : Int) := by omega
          obtain ⟨ad, e1, hx⟩ := Kd.at_int (Kd.C_below HR1.out hk.out.2.2) k hk0 hk1
          subst e1
          rw [Int.toNat_natCast, rdn _ _ hlt, ← O.getD_eq _ _ hlt] at hx
          have hz := blk_cell hk.out.2.1 k
          rw [cellsOf_at _ _ (by rw [addTo_length, HN.out]; omega), addTo_at _ _ _ _ (by rw [HN.out]; omega), if_neg (by omega)] at hz
          have HS := Aside0.mk (addTo_succ l0 l1 k hlt)
          have HADD := Aside0.mk (add_now (getD_R HA0.out k) (getD_R HA1.out k))
          obtain ⟨x, hx'⟩ : ∃ x, l0.getD k 0 = x := ⟨_, rfl⟩
          obtain ⟨y, hy'⟩ : ∃ y, l1.getD k 0 = y := ⟨_, rfl⟩
          rw [hx'] at hz HS HADD
          rw [hy'] at hx HS HADD
          obtain ⟨z, hz'⟩ : ∃ z, addS x y = z := ⟨_, rfl⟩
          rw [hz'] at HS HADD
          clear hx' hy' hz'
          go_wp2_with (first
            | (go_at_call 24; refine (exact_Add.calls _ _ _ _ HADD.out).mono ?_; rintro e w3 ⟨rfl, ⟨nd, rfl⟩⟩)
            | (refine ev_put rfl 3 _ _ rfl rfl g k (by go_simp; done) (.int .i64 z) (by go_simp; done) rfl 3 _ (blk_drewN hk.out.2.1 _) (by rw [cellsOf_size, addTo_length, HN.out]; omega) (by kernel_rfl) ?_; intro w3 h1_ h2_ h3_; have HN3 := Aside0.mk (⟨h1_, h2_ _ HGG.out⟩ : _ ∧ _); clear h1_ h2_ h3_))
          go_roundw
          case rel => exact ⟨k + 1, by go_num, ⟨by omega, by rw [HN3.out.1, cellsOf_set, HS.out], G2.below_then (below_drew' hk.out.2.2) HN3.out.2⟩⟩
          case measure => simp [intOf] <;> omega
        · obtain rfl : k = l1.length := by have := hk.out.1; omega
          go_wp2
          go_ret
          exact ⟨_, rfl, R_block _ (by unfold addL; rw [addTo_length, HN.out]) (by unfold maxLen; omega) hk.out.2.1 HGG.out, hk.out.2.2⟩
  · rw [if_neg hq] at h; cases h
end Go.Proofs.Ytcncjldggfbjdaa.G1
