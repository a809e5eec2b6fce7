/- Plain laws of node for the print of VX, part 1: which nodes may be, and how many bytes they have. -/
import Derived.Test.YtefjbhogpgihaaaG
import Derived.Test.YtefjbhogpgihaaaSXx
import Derived.KernelRfl
namespace Go.Proofs.Ytefjbhogpgihaaa
open Go Go.SX Go.VX
set_option maxRecDepth 100000
set_option linter.unusedVariables false
set_option linter.unusedSimpArgs false
def isKeyP (k : List Int) : Prop := 0 < k.length ∧ k.length ≤ 25
instance (k : List Int) : Decidable (isKeyP k) := by unfold isKeyP; infer_instance
theorem isKey_ok (k : List Int) : s78 k = some (decide (isKeyP k)) := by
  unfold s78 s78F
  by_cases h : (k.length : Int) > 0
  · rw [if_pos h]; congr 1; rw [decide_eq_decide]; unfold isKeyP; omega
  · rw [if_neg h]; congr 1; rw [eq_comm, decide_eq_false_iff_not]; unfold isKeyP; omega
/-- Keys, and rising, behind one. -/
def rise : Option (List Int) → List (List Int) → Prop
  | _, [] => True
  | last, k :: ks => isKeyP k ∧ (∀ l, last = some l → cmpB l k < 0) ∧ rise (some k) ks
instance decRise : ∀ (last : Option (List Int)) (ks : List (List Int)), Decidable (rise last ks)
  | _, [] => .isTrue trivial
  | last, k :: ks => by
    unfold rise
    haveI := decRise (some k) ks
    haveI : Decidable (∀ l, last = some l → cmpB l k < 0) := match last with
      | none => .isTrue fun _ h => by cases h
      | some l => if h : cmpB l k < 0 then .isTrue fun _ e => by cases e; exact h else .isFalse fun f => h (f l rfl)
    infer_instance
def lastOf (last : List Int) (z : Bool) : Option (List Int) := if z then none else some last
structure MayP (n : T_api_Node) : Prop where
  keys : rise none (n.Pairs.map (·.Key) ++ n.Keys)
  leaf : n.Leaf = true → (∀ p ∈ n.Pairs, p.Val.length ≤ 24) ∧ n.Pairs.length ≤ 255 ∧ n.Keys = [] ∧ n.Kids = []
  inner : n.Leaf = false → (∀ k ∈ n.Kids, 2 ≤ k ∧ k < 2048) ∧ n.Pairs = [] ∧ 0 < n.Keys.length ∧ n.Keys.length ≤ 255 ∧ n.Kids.length = n.Keys.length + 1
open Classical in
noncomputable def mayB (n : T_api_Node) : Bool := decide (MayP n)
open Classical in
theorem mayB_iff (n : T_api_Node) : mayB n = true ↔ MayP n := by unfold mayB; exact decide_eq_true_iff
/-- So few that numbers do not wrap. -/
def Fine (n : T_api_Node) : Prop := n.Pairs.length ≤ 9223372036854775807 ∧ n.Keys.length ≤ 9223372036854775807 ∧ n.Kids.length ≤ 9223372036854775807
abbrev Nd := Bool × List T_api_Pair × List (List Int) × List Int
def nd (n : T_api_Node) : Nd := (n.Leaf, n.Pairs, n.Keys, n.Kids)
/-- The keys that are handed to yield. -/
def trk (d : Nd) : List (List Int) → Tr (List Int) Nd
  | [] => .done d
  | v :: l => .yield v d (trk d l)
theorem keys_l2 (b : Bool) (ps : List T_api_Pair) (kd : List Int) {ks : List (List Int)} (ks0 : List (List Int)) (hk : ks.length ≤ 9223372036854775807) : ∀ (m i : Nat), i ≤ ks.length → ks.length - i < m →
    s108_l2 m ks (ks.length : Int) (i : Int) b ps ks0 kd = some (trk (b, ps, ks0, kd) (ks.drop i)) := by
  intro m
  induction m with
  | zero => intro i _ h; omega
  | succ m ih =>
    intro i hi hm
    show s108_l2B (s108_j2 (s108_l2 m)) ks (ks.length : Int) (i : Int) b ps ks0 kd = _
    unfold s108_l2B
    by_cases h : i < ks.length
    · rw [if_pos (by omega), getI_nat, List.getElem?_eq_getElem h, Option.bind_some, List.drop_eq_getElem_cons h]
      have e1 : s108_j2 (s108_l2 m) ks (ks.length : Int) (i : Int) true b ps ks0 kd = some (.done (b, ps, ks0, kd)) := rfl
      have e2 : s108_j2 (s108_l2 m) ks (ks.length : Int) (i : Int) false b ps ks0 kd = some (trk (b, ps, ks0, kd) (ks.drop (i + 1))) := by
        unfold s108_j2 s108_j2F
        rw [if_neg (by decide), show (i : Int) + 1 = ((i + 1 : Nat) : Int) by omega, i64_nat (by omega), ih (i + 1) (by omega) (by omega)]
      rw [e1, e2]; rfl
    · rw [if_neg (by omega)]
      obtain rfl : i = ks.length := by omega
      rw [List.drop_length]; rfl
theorem keys_l1 (b : Bool) {ps : List T_api_Pair} (ps0 : List T_api_Pair) (kd : List Int) {ks : List (List Int)} (hp : ps.length ≤ 9223372036854775807) (hk : ks.length ≤ 9223372036854775807) : ∀ (m i : Nat), i ≤ ps.length → ps.length - i < m →
    s108_l1 m ps (ps.length : Int) (i : Int) b ps0 ks kd = some (trk (b, ps0, ks, kd) ((ps.drop i).map (·.Key) ++ ks)) := by
  intro m
  induction m with
  | zero => intro i _ h; omega
  | succ m ih =>
    intro i hi hm
    show s108_l1B (s108_j1 (s108_l1 m)) (s108_l2 FUEL) ps (ps.length : Int) (i : Int) b ps0 ks kd = _
    unfold s108_l1B
    by_cases h : i < ps.length
    · rw [if_pos (by omega), getI_nat, List.getElem?_eq_getElem h, Option.bind_some, List.drop_eq_getElem_cons h]
      have e1 : s108_j1 (s108_l1 m) ps (ps.length : Int) (i : Int) true b ps0 ks kd = some (.done (b, ps0, ks, kd)) := rfl
      have e2 : s108_j1 (s108_l1 m) ps (ps.length : Int) (i : Int) false b ps0 ks kd = some (trk (b, ps0, ks, kd) ((ps.drop (i + 1)).map (·.Key) ++ ks)) := by
        unfold s108_j1 s108_j1F
        rw [if_neg (by decide), show (i : Int) + 1 = ((i + 1 : Nat) : Int) by omega, i64_nat (by omega), ih (i + 1) (by omega) (by omega)]
      rw [e1, e2]; rfl
    · rw [if_neg (by omega)]
      obtain rfl : i = ps.length := by omega
      rw [List.drop_length]
      have := keys_l2 b ps0 kd (ks := ks) ks hk FUEL 0 (by omega) (by unfold FUEL; omega)
      rw [List.drop_zero] at this
      exact this
theorem keys_ok {n : T_api_Node} (hf : Fine n) : s108 n.Leaf n.Pairs n.Keys n.Kids = some (trk (nd n) (n.Pairs.map (·.Key) ++ n.Keys)) := by
  have := keys_l1 n.Leaf (ps := n.Pairs) n.Pairs n.Kids (ks := n.Keys) hf.1 hf.2.1 FUEL 0 (by omega) (by have := hf.1; unfold FUEL; omega)
  rw [List.drop_zero] at this
  exact this
theorem rise_ok (d : Nd) : ∀ (vs : List (List Int)) (b z : Bool) (last : List Int), s88_r1 (trk d vs) b z last = some (decide (rise (lastOf last z) vs), d)
  | [], b, z, last => by
    rw [decide_eq_true (show rise (lastOf last z) [] from trivial)]; rfl
  | v :: vs, b, z, last => by
    have ih := rise_ok d vs b false v
    show s88_r1B (s88_j2 (fun b z last => s88_r1 (trk d vs) b z last) d.1 d.2.1 d.2.2.1 d.2.2.2) v b z last = _
    unfold s88_r1B
    rw [isKey_ok, Option.bind_some]
    by_cases hk : isKeyP v
    · rw [decide_eq_true hk, if_neg (by simp)]
      have go : s88_j2 (fun b z last => s88_r1 (trk d vs) b z last) d.1 d.2.1 d.2.2.1 d.2.2.2 v false b z last = some (decide (rise (some v) vs), d) := by
        unfold s88_j2 s88_j2F
        rw [if_neg (by decide), if_neg (by have := hk.1; omega)]
        exact ih
      have no : s88_j2 (fun b z last => s88_r1 (trk d vs) b z last) d.1 d.2.1 d.2.2.1 d.2.2.2 v true b z last = some (false, d) := rfl
      cases z with
      | true =>
        rw [if_neg (by decide), go]
        congr 2
        rw [decide_eq_decide]
        exact ⟨fun h => ⟨hk, fun l e => (by simp [lastOf] at e), h⟩, fun h => h.2.2⟩
      | false =>
        rw [if_pos (by decide)]
        show (some (cmpB last v)).bind _ = _
        rw [Option.bind_some]
        by_cases hc : cmpB last v ≥ 0
        · rw [decide_eq_true hc, no, decide_eq_false (fun h => by have := h.2.1 last rfl; omega)]
        · rw [decide_eq_false hc, go]
          congr 2
          rw [decide_eq_decide]
          exact ⟨fun h => ⟨hk, fun l e => (by cases e; omega), h⟩, fun h => h.2.2⟩
    · rw [decide_eq_false hk, if_pos (by simp), decide_eq_false (fun h => hk h.1)]
      rfl
theorem rising_ok {n : T_api_Node} (hf : Fine n) : s88 n.Leaf n.Pairs n.Keys n.Kids = some (decide (rise none (n.Pairs.map (·.Key) ++ n.Keys)), nd n) := by
  show (s108 n.Leaf n.Pairs n.Keys n.Kids).bind (fun tr => s88_r1 tr false true []) = _
  rw [keys_ok hf, Option.bind_some, rise_ok]
  rfl
theorem long_loop {xs : List T_api_Pair} (hx : xs.length ≤ 9223372036854775807) : ∀ (m i : Nat), i ≤ xs.length → xs.length - i < m → ∃ r : Int, s109_l1 m xs (xs.length : Int) (i : Int) = some r ∧ (r ≥ 0 ↔ ¬ ∀ p ∈ xs.drop i, p.Val.length ≤ 24) := by
  intro m
  induction m with
  | zero => intro i _ h; omega
  | succ m ih =>
    intro i hi hm
    show ∃ r : Int, s109_l1B (s109_l1 m) xs (xs.length : Int) (i : Int) = some r ∧ _
    unfold s109_l1B
    by_cases h : i < xs.length
    · rw [if_pos (by omega), getI_nat, List.getElem?_eq_getElem h, Option.bind_some, List.drop_eq_getElem_cons h]
      show ∃ r : Int, ((some (decide (((xs[i]).Val.length : Int) > 24))).bind _) = some r ∧ _
      rw [Option.bind_some]
      by_cases hv : ((xs[i]).Val.length : Int) > 24
      · rw [decide_eq_true hv, if_pos rfl]
        exact ⟨_, rfl, fun _ hh => by have := hh xs[i] (List.mem_cons_self ..); omega, fun _ => by omega⟩
      · obtain ⟨r, h1, h2⟩ := ih (i + 1) (by omega) (by omega)
        rw [decide_eq_false hv, if_neg (by decide), show (i : Int) + 1 = ((i + 1 : Nat) : Int) by omega, i64_nat (by omega)]
        refine ⟨r, h1, h2.trans (not_congr ⟨fun hh p hp => ?_, fun hh p hp => hh p (List.mem_cons_of_mem _ hp)⟩)⟩
        rcases List.mem_cons.1 hp with rfl | hp
        · omega
        · exact hh p hp
    · rw [if_neg (by omega)]
      obtain rfl : i = xs.length := by omega
      rw [List.drop_length]
      exact ⟨_, rfl, fun h => by omega, fun h => absurd (fun _ hp => by cases hp) h⟩
theorem kid_loop {xs : List Int} (hx : xs.length ≤ 9223372036854775807) : ∀ (m i : Nat), i ≤ xs.length → xs.length - i < m → ∃ r : Int, s110_l1 m xs (xs.length : Int) (i : Int) = some r ∧ (r ≥ 0 ↔ ¬ ∀ k ∈ xs.drop i, 2 ≤ k ∧ k < 2048) := by
  intro m
  induction m with
  | zero => intro i _ h; omega
  | succ m ih =>
    intro i hi hm
    show ∃ r : Int, s110_l1B (s110_l1 m) xs (xs.length : Int) (i : Int) = some r ∧ _
    unfold s110_l1B
    by_cases h : i < xs.length
    · have hk : s93 xs[i] = some (decide (¬ (2 ≤ xs[i] ∧ xs[i] < 2048))) := by
        unfold s93 s93F s83 s83F
        by_cases h2 : xs[i] ≥ 2
        · rw [if_pos h2, Option.bind_some]; congr 1; rw [decide_eq_decide]; simp; omega
        · rw [if_neg h2, Option.bind_some]; congr 1; rw [decide_eq_decide]; simp; omega
      rw [if_pos (by omega), getI_nat, List.getElem?_eq_getElem h, Option.bind_some, List.drop_eq_getElem_cons h, hk, Option.bind_some]
      by_cases hv : ¬ (2 ≤ xs[i] ∧ xs[i] < 2048)
      · rw [decide_eq_true hv, if_pos rfl]
        exact ⟨_, rfl, fun _ hh => hv (hh xs[i] (List.mem_cons_self ..)), fun _ => by omega⟩
      · obtain ⟨r, h1, h2⟩ := ih (i + 1) (by omega) (by omega)
        rw [decide_eq_false hv, if_neg (by decide), show (i : Int) + 1 = ((i + 1 : Nat) : Int) by omega, i64_nat (by omega)]
        refine ⟨r, h1, h2.trans (not_congr ⟨fun hh p hp => ?_, fun hh p hp => hh p (List.mem_cons_of_mem _ hp)⟩)⟩
        rcases List.mem_cons.1 hp with rfl | hp
        · exact Classical.not_not.1 hv
        · exact hh p hp
    · rw [if_neg (by omega)]
      obtain rfl : i = xs.length := by omega
      rw [List.drop_length]
      exact ⟨_, rfl, fun h => by omega, fun h => absurd (fun _ hp => by cases hp) h⟩
theorem long_ok {xs : List T_api_Pair} (hx : xs.length ≤ 9223372036854775807) : ∃ b : Bool, s90 xs = some b ∧ (b = true ↔ ¬ ∀ p ∈ xs, p.Val.length ≤ 24) := by
  obtain ⟨r, h1, h2⟩ := long_loop hx FUEL 0 (by omega) (by unfold FUEL; omega)
  rw [List.drop_zero] at h2
  refine ⟨decide (r ≥ 0), ?_, by rw [decide_eq_true_eq]; exact h2⟩
  show (s109_l1 FUEL xs (xs.length : Int) 0).bind _ = _
  rw [show (0 : Int) = ((0 : Nat) : Int) from rfl, h1]; rfl
theorem kids_ok {xs : List Int} (hx : xs.length ≤ 9223372036854775807) : ∃ b : Bool, s92 xs = some b ∧ (b = true ↔ ¬ ∀ k ∈ xs, 2 ≤ k ∧ k < 2048) := by
  obtain ⟨r, h1, h2⟩ := kid_loop hx FUEL 0 (by omega) (by unfold FUEL; omega)
  rw [List.drop_zero] at h2
  refine ⟨decide (r ≥ 0), ?_, by rw [decide_eq_true_eq]; exact h2⟩
  show (s110_l1 FUEL xs (xs.length : Int) 0).bind _ = _
  rw [show (0 : Int) = ((0 : Nat) : Int) from rfl, h1]; rfl
open Classical in
theorem may_ok {n : T_api_Node} (hf : Fine n) : s50 n = some (mayB n) := by
  obtain ⟨f1, f2, f3⟩ := hf
  obtain ⟨bl, l1, l2⟩ := long_ok f1
  obtain ⟨bk, k1, k2⟩ := kids_ok f3
  unfold s50 s50F
  show (s88 n.Leaf n.Pairs n.Keys n.Kids).bind _ = _
  rw [rising_ok ⟨f1, f2, f3⟩, Option.bind_some]
  simp only [Option.bind_some]
  have yes : ∀ p : Prop, [Decidable p] → (p ↔ MayP n) → some (decide p) = some (mayB n) := fun p _ h => by congr 1; unfold mayB; rw [decide_eq_decide]; exact h
  have no : (MayP n → False) → some false = some (mayB n) := fun h => by congr 1; unfold mayB; rw [decide_eq_false h]
  by_cases hr : rise none (n.Pairs.map (·.Key) ++ n.Keys)
  · rw [decide_eq_true hr, if_neg (by simp)]
    cases hl : n.Leaf with
    | true =>
      rw [if_pos rfl, l1, Option.bind_some]
      cases hb : bl with
      | true => rw [if_neg (by simp)]; exact no fun m => (l2.1 hb) (m.leaf hl).1
      | false =>
        have hv : ∀ p ∈ n.Pairs, p.Val.length ≤ 24 := Classical.not_not.1 fun h => by rw [l2.2 h] at hb; cases hb
        rw [if_pos (by simp)]
        by_cases h2 : (n.Pairs.length : Int) ≤ 255
        · rw [if_pos h2]
          refine yes _ ?_
          by_cases h3 : n.Keys = [] ∧ n.Kids = []
          · obtain ⟨h3, h4⟩ := h3
            rw [h3, h4]
            exact ⟨fun _ => ⟨hr, fun _ => ⟨hv, by omega, h3, h4⟩, fun h => (by rw [hl] at h; cases h)⟩, fun _ => rfl⟩
          · refine ⟨fun h => absurd ?_ h3, fun m => absurd (m.leaf hl).2.2 h3⟩
            rw [IntKind.wrap_i64] at h
            exact ⟨List.eq_nil_of_length_eq_zero (by omega), List.eq_nil_of_length_eq_zero (by omega)⟩
        · rw [if_neg h2]; exact no fun m => by have := (m.leaf hl).2.1; omega
    | false =>
      rw [if_neg (by decide), k1, Option.bind_some]
      cases hb : bk with
      | true => rw [if_neg (by simp)]; exact no fun m => (k2.1 hb) (m.inner hl).1
      | false =>
        have hv : ∀ k ∈ n.Kids, 2 ≤ k ∧ k < 2048 := Classical.not_not.1 fun h => by rw [k2.2 h] at hb; cases hb
        rw [if_pos (by simp)]
        by_cases h2 : (n.Pairs.length : Int) = 0
        · rw [if_pos h2]
          by_cases h3 : (n.Keys.length : Int) > 0
          · rw [if_pos h3]
            by_cases h4 : (n.Keys.length : Int) ≤ 255
            · rw [if_pos h4]
              refine yes _ ?_
              rw [i64_in _ (by omega)]
              exact ⟨fun h => ⟨hr, fun e => (by rw [hl] at e; cases e), fun _ => ⟨hv, List.eq_nil_of_length_eq_zero (by omega), by omega, by omega, by omega⟩⟩, fun m => by have := (m.inner hl).2.2.2.2; omega⟩
            · rw [if_neg h4]; exact no fun m => by have := (m.inner hl).2.2.2.1; omega
          · rw [if_neg h3]; exact no fun m => by have := (m.inner hl).2.2.1; omega
        · rw [if_neg h2]; exact no fun m => h2 (by rw [(m.inner hl).2.1]; rfl)
  · rw [decide_eq_false hr, if_pos (by simp)]
    exact no fun m => hr m.keys
end Go.Proofs.Ytefjbhogpgihaaa
