/- The plain law of NodeBytes. -/
import Derived.Test.YtefjbhogpgihaaaNP
set_option linter.unusedVariables false
set_option maxRecDepth 20000
namespace Go.Proofs.Ytefjbhogpgihaaa
open Go Go.SX
theorem rnget_three {b : List Int} (hb : B8 b) (hl : b.length ≤ 1000000) : ∃ res, g33 3 b = some res ∧ ResN 3 b res ∧ (∀ n, Fine n → n.Leaf = true → chkN n = 0 → b = padN n → res = (n, 0)) := by
  obtain ⟨x, e, hx, d⟩ := one_any hb hl (at_ := 0) (by omega)
  obtain ⟨res, r1, r2, r3⟩ := rnget_leaf hb hl hx ⟨b, ((0 + 1 : Nat) : Int)⟩ FUEL 0 1 [] (by omega) (by unfold FUEL; omega) rfl (by omega) (fun p hp => by cases hp)
  refine ⟨res, ?_, r2, fun n q1 q2 q3 q4 => ?_⟩
  · unfold g33 g33_j1 g33_j2
    rw [if_neg (by decide), show (0 : Int) = ((0 : Nat) : Int) from rfl, e, Option.bind_some, if_neg (by decide)]
    exact r1
  · obtain ⟨m, hs⟩ := chkN_zero q3
    have hp := m.leaf q2
    have eb : b.drop 0 = (n.Pairs.length : Int) :: (layPs n.Pairs ++ List.replicate (240 - (layN n).length) 0) := by
      rw [List.drop_zero, q4]
      unfold padN
      conv => lhs; lhs; unfold layN
      rw [q2]
      rfl
    have ex : x = n.Pairs.length := by have := d _ _ eb; omega
    refine r3 n (List.replicate (240 - (layN n).length) 0) q1 q2 hp.2.2.1 hp.2.2.2 q3 q4 ex (by rw [List.take_zero]) ?_
    rw [List.drop_zero, show (1 : Nat) = 0 + 1 from rfl, ← List.drop_drop, eb]
    rfl
theorem rnget_four {b : List Int} (hb : B8 b) (hl : b.length ≤ 1000000) : ∃ res, g33 4 b = some res ∧ ResN 4 b res ∧ (∀ n, Fine n → n.Leaf = false → chkN n = 0 → b = padN n → res = (n, 0)) := by
  obtain ⟨x, e, hx, d⟩ := one_any hb hl (at_ := 0) (by omega)
  obtain ⟨y, e2, hy, d2⟩ := one_any hb hl (at_ := 0 + 1) (by omega)
  obtain ⟨z, e3, hz, d3⟩ := one_any hb hl (at_ := 0 + 1 + 1) (by omega)
  obtain ⟨res, r1, r2, r3⟩ := rnget_inner hb hl hx ⟨b, ((0 + 1 : Nat) : Int)⟩ FUEL 0 3 [] [256 * (y : Int) + (z : Int)] (by omega) (by unfold FUEL; omega) rfl rfl (by omega) (fun p hp => by cases hp)
  refine ⟨res, ?_, r2, fun n q1 q2 q3 q4 => ?_⟩
  · unfold g33 g33_j1 g33_j2
    rw [if_pos (by decide), if_neg (by decide), show (0 : Int) = ((0 : Nat) : Int) from rfl, e, Option.bind_some, if_pos (by decide)]
    simp only
    rw [e2, Option.bind_some]
    simp only
    rw [e3, Option.bind_some, Option.bind_some]
    simp only
    rw [i64_in (256 * (y : Int)) (by omega), i64_in _ (by omega), appI_ok (by simp), Option.bind_some]
    exact r1
  · obtain ⟨m, hs⟩ := chkN_zero q3
    obtain ⟨v1, v2, v3, v4, v5⟩ := m.inner q2
    obtain ⟨k0, ks, hk⟩ : ∃ k0 ks, n.Kids = k0 :: ks := by
      cases h : n.Kids with
      | nil => rw [h] at v5; simp at v5
      | cons a b => exact ⟨a, b, rfl⟩
    have hc := v1 k0 (by rw [hk]; exact List.mem_cons_self ..)
    obtain ⟨c, rfl⟩ : ∃ c : Nat, k0 = (c : Int) := ⟨k0.toNat, by omega⟩
    have eb : b.drop 0 = (n.Keys.length : Int) :: ((c / 256 : Nat) : Int) :: ((c % 256 : Nat) : Int) :: (layKs n.Keys ks ++ List.replicate (240 - (layN n).length) 0) := by
      rw [List.drop_zero, q4]
      unfold padN
      conv => lhs; lhs; unfold layN
      rw [q2, hk]
      simp only [Bool.false_eq_true, if_false, List.headD_cons, List.tail_cons, Int.toNat_natCast]
      rw [be_two (by omega)]
      rfl
    have ex : x = n.Keys.length := by have := d _ _ eb; omega
    have eb1 : b.drop (0 + 1) = ((c / 256 : Nat) : Int) :: ((c % 256 : Nat) : Int) :: (layKs n.Keys ks ++ List.replicate (240 - (layN n).length) 0) := by rw [← List.drop_drop, eb]; rfl
    have ey := d2 _ _ eb1
    have eb2 : b.drop (0 + 1 + 1) = ((c % 256 : Nat) : Int) :: (layKs n.Keys ks ++ List.replicate (240 - (layN n).length) 0) := by rw [← List.drop_drop, eb1]; rfl
    have ez := d3 _ _ eb2
    refine r3 n (List.replicate (240 - (layN n).length) 0) q1 q2 v2 v5 v1 q3 q4 ex (by rw [List.take_zero]) ?_ ?_
    · rw [hk]
      simp only [List.take_succ_cons, List.take_zero]
      congr 1
      omega
    · rw [show (3 : Nat) = 0 + 1 + 1 + 1 from rfl, ← List.drop_drop, eb2, hk]
      rfl
theorem nget_same {b : List Int} (hb : B8 b) (hl : b.length ≤ 1000000) (kind : Int) : ∃ r, g32 kind b = some r ∧ g33 kind b = some r ∧ Fine r.1 := by
  have f0 : Fine N0 := ⟨by show (0 : Nat) < _; omega, by show (0 : Nat) < _; omega, by show (0 : Nat) < _; omega⟩
  have other (h3 : kind ≠ 3) (h4 : kind ≠ 4) : g33 kind b = some (N0, 42) := by
    unfold g33
    rw [if_pos h3, if_pos h4]
    rfl
  have node42 (h3 : kind ≠ 3) (h4 : kind ≠ 4) : g32 kind b = some (N0, 42) := by
    unfold g32
    rw [read_ok (by omega), Option.bind_some, if_neg h3, if_neg h4]
    rfl
  by_cases h3 : kind = 3
  · subst h3
    obtain ⟨res, r1, r2, r3⟩ := rnget_three hb hl
    refine ⟨res, ?_, r1, ?_⟩
    · rcases get_any hb hl 3 with h | h | ⟨n, h, hf, hr, hk, hc, hp⟩
      · rcases r2 with rfl | ⟨n, rfl, hf, hr, hk, hc, hp⟩
        · exact h
        · have := get_pad hf hr hc
          rw [← hk, ← hp] at this
          exact this
      · rcases r2 with rfl | ⟨n, rfl, hf, hr, hk, hc, hp⟩
        · exfalso
          have e := h
          unfold g32 at e
          rw [read_ok (by omega), Option.bind_some, if_pos rfl] at e
          obtain ⟨n, r', l1, l2, l3, l4, l5⟩ := leaf_any (r := ⟨b, 0, true⟩) ⟨rfl, hb, hl⟩
          rw [l1, Option.bind_some] at e
          simp only at e
          rw [l2.made, get_j1 hb l3 l4] at e
          split at e
          · have := congrArg Prod.snd (Option.some.inj e); simp at this
          · have := congrArg Prod.snd (Option.some.inj e); simp at this
        · have := get_pad hf hr hc
          rw [← hk, ← hp] at this
          exact this
      · rw [h, r3 n hf (by unfold kindN at hk; cases hl : n.Leaf with | true => rfl | false => rw [hl] at hk; simp at hk) hc hp]
    · rcases r2 with rfl | ⟨n, rfl, hf, _⟩
      · exact f0
      · exact hf
  · by_cases h4 : kind = 4
    · subst h4
      obtain ⟨res, r1, r2, r3⟩ := rnget_four hb hl
      refine ⟨res, ?_, r1, ?_⟩
      · rcases get_any hb hl 4 with h | h | ⟨n, h, hf, hr, hk, hc, hp⟩
        · rcases r2 with rfl | ⟨n, rfl, hf, hr, hk, hc, hp⟩
          · exact h
          · have := get_pad hf hr hc
            rw [← hk, ← hp] at this
            exact this
        · rcases r2 with rfl | ⟨n, rfl, hf, hr, hk, hc, hp⟩
          · exfalso
            have e := h
            unfold g32 at e
            rw [read_ok (by omega), Option.bind_some, if_neg (by decide), if_pos rfl] at e
            obtain ⟨n, r', l1, l2, l3, l4, l5⟩ := inner_any (r := ⟨b, 0, true⟩) ⟨rfl, hb, hl⟩
            rw [l1, Option.bind_some] at e
            simp only at e
            rw [l2.made, get_j1 hb l3 l4] at e
            split at e
            · have := congrArg Prod.snd (Option.some.inj e); simp at this
            · have := congrArg Prod.snd (Option.some.inj e); simp at this
          · have := get_pad hf hr hc
            rw [← hk, ← hp] at this
            exact this
        · rw [h, r3 n hf (by unfold kindN at hk; cases hl : n.Leaf with | false => rfl | true => rw [hl] at hk; simp at hk) hc hp]
      · rcases r2 with rfl | ⟨n, rfl, hf, _⟩
        · exact f0
        · exact hf
    · exact ⟨_, node42 h3 h4, other h3 h4, f0⟩
theorem refSame_refl {n : T_api_Node} (hf : Fine n) : g20 n n = some true := by
  obtain ⟨f1, f2, f3⟩ := hf
  have l4 : g20_l4 n n FUEL 0 = some true := by
    have := scanC (xs := n.Kids) (fun _ => False) (g20_l4 n n) (fun _ => some false) (some false) (some true) (by unfold FUEL; omega) (fun _ _ => rfl)
      (fun f i x hx => by
        have hi := (List.getElem?_eq_some_iff.1 hx).1
        show g20_l4B n n (g20_l4 n n f) (i : Int) = _
        unfold g20_l4B
        rw [if_pos (by omega), getI_nat, hx, Option.bind_some, Option.bind_some, if_neg (by simp), if_neg (fun h => h), i64_in _ (by omega), show (i : Int) + 1 = ((i + 1 : Nat) : Int) by omega])
      (fun f => by
        show g20_l4B n n (g20_l4 n n f) (n.Kids.length : Int) = _
        unfold g20_l4B
        rw [if_neg (by omega)])
    rw [this, if_pos (fun _ _ h => h)]
  have l3 : g20_l3 n n FUEL 0 = some true := by
    have := scanC (xs := n.Keys) (fun _ => False) (g20_l3 n n) (fun _ => some false) (some false) (some true) (by unfold FUEL; omega) (fun _ _ => rfl)
      (fun f i x hx => by
        have hi := (List.getElem?_eq_some_iff.1 hx).1
        show g20_l3B n n (g20_l3 n n f) (i : Int) = _
        unfold g20_l3B
        rw [if_pos (by omega), getI_nat, hx, Option.bind_some, Option.bind_some, if_neg (by simp), if_neg (fun h => h), i64_in _ (by omega), show (i : Int) + 1 = ((i + 1 : Nat) : Int) by omega])
      (fun f => by
        show g20_l3B n n (g20_l3 n n f) (n.Keys.length : Int) = _
        unfold g20_l3B
        rw [if_neg (by omega), l4])
    rw [this, if_pos (fun _ _ h => h)]
  unfold g20 g20_j1
  rw [if_neg (by simp), if_neg (by simp), if_neg (by simp), if_neg (by simp)]
  have := scanC (xs := n.Pairs) (fun _ => False) (g20_l2 n n) (fun _ => some false) (some false) (some true) (by unfold FUEL; omega) (fun _ _ => rfl)
    (fun f i x hx => by
      have hi := (List.getElem?_eq_some_iff.1 hx).1
      show g20_l2B n n (g20_l2 n n f) (i : Int) = _
      unfold g20_l2B
      rw [if_pos (by omega), getI_nat, hx, Option.bind_some, Option.bind_some, if_neg (by simp), Option.bind_some, Option.bind_some, if_neg (by simp), if_neg (fun h => h), i64_in _ (by omega), show (i : Int) + 1 = ((i + 1 : Nat) : Int) by omega])
    (fun f => by
      show g20_l2B n n (g20_l2 n n f) (n.Pairs.length : Int) = _
      unfold g20_l2B
      rw [if_neg (by omega), l3])
  rw [this, if_pos (fun _ _ h => h)]
theorem Pure.NodeBytes (p0 : T_api_Node) (p1 : Int) (p2 : List Int) (h0 : okN p0) (h1 : (Lit.int .i64 p1).wf = true) (h2 : okB p2) : g6 p0 p1 p2 = some true := by
  have jt : g6_j1 p0 p1 p2 true = some true := by
    unfold g6_j1
    rw [if_pos rfl, live_ok]; rfl
  have hb : B8 p2 := B8.of_wf h2.2
  unfold g6
  rw [live_ok, Option.bind_some, if_neg (by simp), few_ok _ (by simp), Option.bind_some]
  by_cases hw : ∀ n ∈ [p0], fewN n
  · have hf := (hw p0 (by simp)).fine
    rw [decide_eq_true hw, if_neg (by simp)]
    by_cases hl : (p2.length : Int) > 3000
    · rw [decide_eq_true hl, jt]
    · obtain ⟨r, e1, e2, fr⟩ := nget_same hb (by omega) p1
      have eq1 : ∀ l : List Int, g34 l l = some true := fun l => by unfold g34; simp
      rw [decide_eq_false hl]
      unfold g6_j1 g6_j2
      rw [if_neg (by decide), put_any hf, rnput_any hf, e1, e2]
      simp only [Option.bind_some, if_true, eq1, refSame_refl fr, decide_true]
  · rw [decide_eq_false hw, if_pos (by simp), jt]
end Go.Proofs.Ytefjbhogpgihaaa
