/- Plain laws of layer 4: the chapter's example; FramePlace; FrameFault. -/
import Derived.Test.YtjkghheeeiacmaaDoorPB
set_option linter.unusedVariables false
set_option maxRecDepth 20000
namespace Go.Proofs.YtjkghheeeiacmaaDoor
open Go Go.SX
theorem live_ok : g9 = some true := by kernel_rfl
def okF (f : T_api_Frame) : Prop := (Lit.int .i64 f.Kind).wf = true ∧ (Lit.int .i64 f.Page).wf = true ∧ (Lit.int .u64 f.Epoch).wf = true ∧ f.Data.length ≤ 9223372036854775807 ∧ ∀ x ∈ f.Data, (Lit.int .u8 x).wf = true
theorem wf_u64 {n : Int} (h : (Lit.int .u64 n).wf = true) : 0 ≤ n ∧ n < 18446744073709551616 := by
  simp [Lit.wf, IntKind.min, IntKind.max, IntKind.signed, IntKind.bits] at h
  omega
theorem wf_u32 {n : Int} (h : (Lit.int .u32 n).wf = true) : 0 ≤ n ∧ n < 4294967296 := by
  simp [Lit.wf, IntKind.min, IntKind.max, IntKind.signed, IntKind.bits] at h
  omega
theorem wf_u16 {n : Int} (h : (Lit.int .u16 n).wf = true) : 0 ≤ n ∧ n < 65536 := by
  simp [Lit.wf, IntKind.min, IntKind.max, IntKind.signed, IntKind.bits] at h
  omega
theorem okF.epoch {f : T_api_Frame} (h : okF f) : 0 ≤ f.Epoch ∧ f.Epoch < 18446744073709551616 := wf_u64 h.2.2.1
theorem okF.data {f : T_api_Frame} (h : okF f) : B8 f.Data := B8.of_wf h.2.2.2.2
theorem okF.put {f : T_api_Frame} (h : okF f) : g11 f = some (if chk f = 0 then (pg f, 0) else ([], chk f)) := put_ok h.epoch h.data
theorem short_loop (l : List T_api_Frame) : ∀ (fuel i : Nat), i ≤ l.length → l.length < 9223372036854775807 → l.length - i < fuel → g10_l1 l fuel (i : Int) = some (decide (∀ f ∈ l.drop i, f.Data.length ≤ 3000)) := by
  intro fuel
  induction fuel with
  | zero => intro i _ _ h; omega
  | succ n ih =>
    intro i hi hb hf
    show g10_l1B l (g10_l1 l n) (i : Int) = _
    unfold g10_l1B
    by_cases h : i < l.length
    · rw [if_pos (by omega), getI_nat, List.getElem?_eq_getElem h, Option.bind_some, List.drop_eq_getElem_cons h]
      by_cases h2 : (l[i].Data.length : Int) > 3000
      · rw [if_pos h2]
        congr 1
        rw [eq_comm, decide_eq_false_iff_not]
        intro hall
        have := hall l[i] (List.mem_cons_self ..)
        omega
      · rw [if_neg h2, i64_in _ (by omega), show (i : Int) + 1 = ((i + 1 : Nat) : Int) by omega, ih (i + 1) (by omega) hb (by omega)]
        congr 1
        rw [decide_eq_decide, List.forall_mem_cons]
        exact ⟨fun h3 => ⟨by omega, h3⟩, fun h3 => h3.2⟩
    · rw [if_neg (by omega), List.drop_of_length_le (by omega)]
      simp
theorem short_ok (l : List T_api_Frame) (h : l.length < 1000) : g10 l = some (decide (∀ f ∈ l, f.Data.length ≤ 3000)) := by
  have := short_loop l FUEL 0 (by omega) (by omega) (by unfold FUEL; omega)
  rw [List.drop_zero] at this
  exact this
theorem alike_nil : g12 E0 E0 = some true := by kernel_rfl
/-! ### FramePlace -/
theorem place_j2 (p0 : T_api_Frame) (p1 : Int) : (if p0.Page = p1 then g4_j2 p0 p1 p0.Kind p0.Page p0.Epoch (pad p0) 0 else g4_j2 p0 p1 0 0 0 [] 41) = some true := by
  by_cases h : p0.Page = p1
  · rw [if_pos h]
    unfold g4_j2
    rw [if_pos (by simp [h]), if_pos rfl]
    rfl
  · rw [if_neg h]
    unfold g4_j2
    have h2 : ¬ p1 = p0.Page := fun e => h e.symm
    rw [if_pos (by simp [h2]), if_neg (by decide), if_pos rfl, show T_api_Frame.mk 0 0 0 [] = E0 from rfl, alike_nil]
    rfl
theorem Pure.FramePlace (p0 : T_api_Frame) (p1 : Int) (h0 : okF p0) (h1 : (Lit.int .i64 p1).wf = true) : g4 p0 p1 = some true := by
  unfold g4
  rw [live_ok, Option.bind_some, if_neg (by simp), short_ok _ (by simp), Option.bind_some]
  generalize decide (¬ decide (∀ f ∈ [p0], f.Data.length ≤ 3000) = true) = c
  unfold g4_j1
  by_cases hc : c = true
  · rw [if_pos hc, live_ok]; rfl
  · rw [if_neg hc, h0.put, Option.bind_some]
    by_cases hk : chk p0 = 0
    · have F := frm_of hk h0.epoch h0.data
      have hl := pg_len F.len
      rw [if_pos hk, if_neg (by simp)]
      simp only
      have key : (g8 (pg p0) p1).bind (fun r => g4_j2 p0 p1 r.1.Kind r.1.Page r.1.Epoch r.1.Data r.2) = some true := by
        rw [get_ok F.pg8 hl, Option.bind_some, getS_pg F]
        have := place_j2 p0 p1
        by_cases h : p0.Page = p1
        · rw [if_pos h] at this ⊢; exact this
        · rw [if_neg h] at this ⊢; exact this
      have hcut : cutI (pg p0) 0 ((pg p0).length : Int) = some (pg p0) := by
        rw [cutI_to (Nat.le_refl _), List.take_length]
      generalize pg p0 = b at *
      rw [get_inl hl] at key
      simp only [hcut, g4_j4, g4_j5, g4_j6, Option.bind_some, if_true, ite_decide]
      rw [if_neg (show ¬ ((b.length : Int) ≠ 256) by rw [hl]; decide), if_pos (show 256 ≤ b.length by omega), if_pos (show 256 ≤ b.length by omega)]
      exact key
    · rw [if_neg hk, if_pos hk]
      rfl
/-! ### FrameFault -/
theorem xorL_len : ∀ (l m : List Int), l.length = m.length → (xorL l m).length = l.length
  | [], [], _ => rfl
  | a :: l, b :: m, h => by simp only [xorL, List.length_cons]; rw [xorL_len l m (by simpa using h)]
  | [], _ :: _, h => by simp at h
  | _ :: _, [], h => by simp at h
theorem le4_ne {x : List Int} {v : Nat} (hx : B8 x) (hl : x.length = 4) (hv : v < 4294967296) (h : xorL x (le4 v) = x) : v = 0 := by
  match x, hl with
  | [a, b, c, d], _ =>
    have ha := hx a (by simp); have hb := hx b (by simp); have hc := hx c (by simp); have hd := hx d (by simp)
    simp only [le4, xorL, List.cons.injEq, Int.toNat_natCast, and_true] at h
    obtain ⟨h1, h2, h3, h4⟩ := h
    have e1 : v % 256 = 0 := xor_self_zero (u := a.toNat) (by omega)
    have e2 : v / 256 % 256 = 0 := xor_self_zero (u := b.toNat) (by omega)
    have e3 : v / 65536 % 256 = 0 := xor_self_zero (u := c.toNat) (by omega)
    have e4 : v / 16777216 % 256 = 0 := xor_self_zero (u := d.toNat) (by omega)
    omega
theorem xorL8 : ∀ {l m : List Int}, B8 l → B8 m → B8 (xorL l m)
  | [], _, _, _ => by intro x hx; simp [xorL] at hx
  | _ :: _, [], _, _ => by intro x hx; simp [xorL] at hx
  | a :: l, b :: m, h1, h2 => by
    have ha := h1 a (List.mem_cons_self ..); have hb := h2 b (List.mem_cons_self ..)
    refine B8.cons ?_ (xorL8 (fun x hx => h1 x (List.mem_cons_of_mem _ hx)) (fun x hx => h2 x (List.mem_cons_of_mem _ hx)))
    have : a.toNat ^^^ b.toNat < 256 := Nat.xor_lt_two_pow (n := 8) (by omega) (by omega)
    omega
theorem le4_8 (v : Nat) : B8 (le4 v) := by
  refine B8.cons (by omega) (B8.cons (by omega) (B8.cons (by omega) (B8.cons (by omega) B8.nil)))
theorem fault_step {p0 : T_api_Frame} {v k n i : Nat} {pre post : List Int} {x : Int} (hv : v < 4294967296) (hk : k ≤ 1000) (hi : i < 4) (hp : pre.length = k + i) (hx : 0 ≤ x ∧ x ≤ 255) :
    g3_l6 p0 (v : Int) (k : Int) (n + 1) (i : Int) (pre ++ x :: post) = g3_l6 p0 (v : Int) (k : Int) n ((i + 1 : Nat) : Int) (pre ++ ((x.toNat ^^^ (v / 256 ^ i % 256) : Nat) : Int) :: post) := by
  show g3_l6B p0 (v : Int) (k : Int) (g3_l6 p0 (v : Int) (k : Int) n) (i : Int) _ = _
  unfold g3_l6B
  have e1 : IntKind.i64.wrap ((k : Int) + (i : Int)) = ((k + i : Nat) : Int) := by rw [i64_in _ (by omega)]; omega
  have e2 : IntKind.u64.wrap (IntKind.i64.wrap (8 * (i : Int))) = ((8 * i : Nat) : Int) := by rw [i64_in _ (by omega), u64_in _ (by omega)]; omega
  have e3 : shrI .u32 (v : Int) ((8 * i : Nat) : Int) = ((v / 256 ^ i : Nat) : Int) := by
    rw [shrI_nat (show 8 * i ≤ IntKind.u32.bits by show 8 * i ≤ 32; omega), Nat.pow_mul]
  have e4 : x = ((x.toNat : Nat) : Int) := by omega
  rw [if_pos (by omega), e1, getI_nat, get_mid hp.symm, Option.bind_some, e2, if_pos (by omega), Option.bind_some, e3, Option.bind_some, setI_nat (by rw [List.length_append, List.length_cons]; omega), Option.bind_some, set_mid hp.symm, i64_in _ (by omega), wrap_nat (k := .u8) rfl]
  have e5 : xorI .u8 x ((v / 256 ^ i % 2 ^ IntKind.u8.bits : Nat) : Int) = ((x.toNat ^^^ (v / 256 ^ i % 256) : Nat) : Int) := by
    have h256 : (2 : Nat) ^ IntKind.u8.bits = 256 := rfl
    rw [h256]
    have := xorI_nat (k := .u8) rfl (a := x.toNat) (b := v / 256 ^ i % 256) (by show _ < 256; omega) (by show _ < 256; omega)
    rwa [← e4] at this
  rw [e5]
  rfl
theorem fault_loop {p0 : T_api_Frame} {v k : Nat} {pre post x : List Int} (hv : v < 4294967296) (hk : k ≤ 1000) (hp : pre.length = k) (hx : x.length = 4) (h8 : B8 x) :
    g3_l6 p0 (v : Int) (k : Int) FUEL 0 (pre ++ x ++ post) = (g8 (pre ++ xorL x (le4 v) ++ post) p0.Page).bind fun r => some (decide (r.2 = 40)) := by
  match x, hx with
  | [a, b, c, d], _ =>
    have ha := h8 a (by simp); have hb := h8 b (by simp); have hc := h8 c (by simp); have hd := h8 d (by simp)
    obtain ⟨n, hn⟩ : ∃ n, FUEL = n + 5 := ⟨FUEL - 5, by unfold FUEL; decide⟩
    rw [hn]
    have s0 := fault_step (p0 := p0) (n := n + 4) (i := 0) (pre := pre) (post := b :: c :: d :: post) hv hk (by omega) (by omega) ha
    have s1 := fault_step (p0 := p0) (n := n + 3) (i := 1) (pre := pre ++ [((a.toNat ^^^ (v / 256 ^ 0 % 256) : Nat) : Int)]) (post := c :: d :: post) hv hk (by omega) (by simp; omega) hb
    have s2 := fault_step (p0 := p0) (n := n + 2) (i := 2) (pre := pre ++ [((a.toNat ^^^ (v / 256 ^ 0 % 256) : Nat) : Int), ((b.toNat ^^^ (v / 256 ^ 1 % 256) : Nat) : Int)]) (post := d :: post) hv hk (by omega) (by simp; omega) hc
    have s3 := fault_step (p0 := p0) (n := n + 1) (i := 3) (pre := pre ++ [((a.toNat ^^^ (v / 256 ^ 0 % 256) : Nat) : Int), ((b.toNat ^^^ (v / 256 ^ 1 % 256) : Nat) : Int), ((c.toNat ^^^ (v / 256 ^ 2 % 256) : Nat) : Int)]) (post := post) hv hk (by omega) (by simp; omega) hd
    simp only [List.append_assoc, List.cons_append, List.nil_append, Nat.reduceAdd] at s0 s1 s2 s3 ⊢
    rw [show (0 : Int) = ((0 : Nat) : Int) from rfl, s0, s1, s2, s3]
    show g3_l6B p0 (v : Int) (k : Int) (g3_l6 p0 (v : Int) (k : Int) n) _ _ = _
    unfold g3_l6B
    rw [if_neg (by omega)]
    simp only [xorL, le4, Int.toNat_natCast, Nat.pow_zero, Nat.div_one, Nat.pow_one, List.cons_append, List.nil_append, Nat.reducePow]
theorem fault_sum {f : T_api_Frame} (F : Frm f) {v k : Nat} (hv : v < 4294967296) (h0 : v ≠ 0) (hk : k = 0 ∨ 4 ≤ k ∧ k ≤ 252) : ∃ pre x post, pg f = pre ++ x ++ post ∧ pre.length = k ∧ x.length = 4 ∧
    ofbe ((pre ++ xorL x (le4 v) ++ post).take 4) ≠ crcOf ((pre ++ xorL x (le4 v) ++ post).drop 4) := by
  have hl := pg_len F.len
  have h8 := F.pg8
  have hbl := body_len F.len
  rcases hk with rfl | ⟨h4, h252⟩
  · refine ⟨[], be 4 (crcOf (body f)), body f, by rfl, rfl, be_len _ _, ?_⟩
    have hx : (xorL (be 4 (crcOf (body f))) (le4 v)).length = 4 := by rw [xorL_len _ _ (by rw [be_len]; rfl), be_len]
    rw [List.nil_append]
    have t : (xorL (be 4 (crcOf (body f))) (le4 v) ++ body f).take 4 = xorL (be 4 (crcOf (body f))) (le4 v) := by
      have := List.take_left (l₁ := xorL (be 4 (crcOf (body f))) (le4 v)) (l₂ := body f); rwa [hx] at this
    have d : (xorL (be 4 (crcOf (body f))) (le4 v) ++ body f).drop 4 = body f := by
      have := List.drop_left (l₁ := xorL (be 4 (crcOf (body f))) (le4 v)) (l₂ := body f); rwa [hx] at this
    rw [t, d]
    intro e
    have h1 := be_ofbe (xorL8 (be_B8 4 (crcOf (body f))) (le4_8 v))
    rw [hx, e] at h1
    exact h0 (le4_ne (be_B8 _ _) (be_len _ _) hv h1.symm)
  · refine ⟨be 4 (crcOf (body f)) ++ (body f).take (k - 4), ((body f).drop (k - 4)).take 4, (body f).drop k, ?_, ?_, ?_, ?_⟩
    · rw [pg, List.append_assoc, List.append_assoc]
      congr 1
      have e1 : (body f).drop k = ((body f).drop (k - 4)).drop 4 := by rw [List.drop_drop]; congr 1; omega
      rw [e1, List.take_append_drop, List.take_append_drop]
    · rw [List.length_append, be_len, List.length_take]; omega
    · rw [List.length_take, List.length_drop]; omega
    · rw [List.append_assoc, List.append_assoc, take_be, drop_be, ofbe_be, Nat.mod_eq_of_lt (by exact crcOf_lt F.body8)]
      have := burst (pre := (body f).take (k - 4)) (post := (body f).drop k) (x := ((body f).drop (k - 4)).take 4) hv h0 (by rw [List.length_take, List.length_drop]; omega) rfl
      have e1 : (body f).drop k = ((body f).drop (k - 4)).drop 4 := by rw [List.drop_drop]; congr 1; omega
      have e2 : (body f).take (k - 4) ++ ((body f).drop (k - 4)).take 4 ++ (body f).drop k = body f := by
        rw [e1, List.append_assoc, List.take_append_drop, List.take_append_drop]
      rw [e2, List.append_assoc] at this
      exact this.symm
theorem get_zero (at_ : Int) : g8 (List.replicate 256 0) at_ = some (E0, 40) := by
  rw [get_ok (B8.rep _) (by rw [List.length_replicate])]
  unfold getS
  rw [if_pos (.inl rfl)]
theorem fault_j5 {f : T_api_Frame} (F : Frm f) {v k : Nat} (hv : v < 4294967296) (h0 : v ≠ 0) (hk : k = 0 ∨ 4 ≤ k ∧ k ≤ 252) : g3_j5 f (v : Int) (pg f, 0) (k : Int) = some true := by
  unfold g3_j5
  obtain ⟨pre, x, post, e, hp, hx, hne⟩ := fault_sum F hv h0 hk
  have hl := pg_len F.len
  have h8 := F.pg8
  rw [e] at hl h8
  have hx8 : B8 x := fun y hy => h8 y (by simp [hy])
  simp only
  rw [e, fault_loop hv (by omega) hp hx hx8]
  have hxl : (xorL x (le4 v)).length = 4 := by rw [xorL_len _ _ (by rw [hx]; rfl), hx]
  have hb8 : B8 (pre ++ xorL x (le4 v) ++ post) := by
    refine ((B8.append (fun y hy => h8 y (by simp [hy])) (xorL8 hx8 (le4_8 v))).append fun y hy => h8 y (by simp [hy]))
  rw [get_ok hb8 (by simp only [List.length_append] at hl ⊢; omega), Option.bind_some]
  unfold getS
  rw [if_pos (.inr hne)]
  rfl
theorem Pure.FrameFault (p0 : T_api_Frame) (p1 p2 : Int) (h0 : okF p0) (h1 : (Lit.int .u16 p1).wf = true) (h2 : (Lit.int .u32 p2).wf = true) : g3 p0 p1 p2 = some true := by
  have w1 := wf_u16 h1
  have w2 := wf_u32 h2
  unfold g3
  rw [show (256 : Int) = ((256 : Nat) : Int) from rfl, repI_nat (by decide), Option.bind_some, get_zero, Option.bind_some]
  unfold g3_j1
  rw [live_ok, Option.bind_some, if_neg (by simp), if_neg (by simp), short_ok _ (by simp), Option.bind_some]
  generalize decide (¬ decide (∀ f ∈ [p0], f.Data.length ≤ 3000) = true) = c
  unfold g3_j2
  by_cases hc : c = true
  · rw [if_pos hc, live_ok]; rfl
  · rw [if_neg hc, h0.put, Option.bind_some]
    by_cases hk : chk p0 = 0
    · have F := frm_of hk h0.epoch h0.data
      have hl := pg_len F.len
      rw [if_pos hk, if_neg (by simp)]
      unfold g3_j4
      by_cases hz : p2 = 0
      · rw [if_pos (by simp [hz])]
      · rw [if_neg (by simp [hz])]
        simp only
        rw [if_neg (by rw [hl]; decide)]
        obtain ⟨v, rfl⟩ : ∃ v : Nat, p2 = v := ⟨p2.toNat, by omega⟩
        have hv : v < 4294967296 := by omega
        have hv0 : v ≠ 0 := by omega
        by_cases hodd : Int.tmod p1 2 = 1
        · rw [if_pos hodd, Option.bind_some]
          have e1 : Int.tdiv p1 2 = p1 / 2 := Int.tdiv_eq_ediv_of_nonneg w1.1
          rw [e1, u16_in _ (by omega), i64_in (p1 / 2) (by omega), Int.tmod_eq_emod_of_nonneg (by omega)]
          obtain ⟨k, hk2⟩ : ∃ k : Nat, IntKind.i64.wrap (4 + p1 / 2 % 249) = k := ⟨(4 + p1 / 2 % 249).toNat, by rw [i64_in _ (by omega)]; omega⟩
          have hk3 := hk2
          rw [i64_in _ (by omega)] at hk3
          rw [hk2]
          exact fault_j5 F hv hv0 (.inr (by omega))
        · rw [if_neg hodd]
          exact fault_j5 F hv hv0 (.inl rfl)
    · rw [if_neg hk, if_pos (by simpa using hk)]
      unfold g3_j4
      rw [if_pos rfl]
end Go.Proofs.YtjkghheeeiacmaaDoor
