/- Plain laws of node: the node of a page's bytes; nodes that are the same. -/
import Derived.Test.YtefjbhogpgihaaaNB
set_option linter.unusedVariables false
set_option maxRecDepth 20000
namespace Go.Proofs.Ytefjbhogpgihaaa
open Go Go.SX
def N0 : T_api_Node := ⟨false, [], [], []⟩
theorem U8_eq (r : T_pack_Reader) : g99 r = (g112_1 r 1).bind fun x => some (IntKind.u8.wrap x.1, x.2) := by
  unfold g99
  rw [same48]
theorem U8_any {r : T_pack_Reader} (h : RdOk r) : ∃ (v : Nat) (r' : T_pack_Reader), g99 r = some ((v : Int), r') ∧ RdOk r' ∧ v < 256 := by
  obtain ⟨v, r', h1, h2, h3⟩ := number_any h (n := 1) (by omega)
  rw [U8_eq, show (1 : Int) = ((1 : Nat) : Int) from rfl, h1, Option.bind_some]
  exact ⟨v, r', by rw [u8_in _ (by omega)], h2, by omega⟩
theorem U16_any {r : T_pack_Reader} (h : RdOk r) : ∃ (v : Nat) (r' : T_pack_Reader), g101 r = some ((v : Int), r') ∧ RdOk r' ∧ v < 65536 := by
  obtain ⟨v, r', h1, h2, h3⟩ := number_any h (n := 2) (by omega)
  unfold g101
  rw [show (2 : Int) = ((2 : Nat) : Int) from rfl, h1, Option.bind_some]
  exact ⟨v, r', by rw [u16_in _ (by omega)], h2, by omega⟩
theorem U8_ok {c : Nat} {rest : List Int} (hc : c < 256) (hr : B8 rest) : g99 ⟨(c : Int) :: rest, 0, true⟩ = some ((c : Int), ⟨rest, 0, true⟩) := by
  rw [U8_eq, show (1 : Int) = ((1 : Nat) : Int) from rfl, number_ok (B8.cons (by omega) hr) (by omega) (by simp), Option.bind_some]
  have : ofbe (List.take 1 ((c : Int) :: rest)) = c := by simp [ofbe]
  rw [this, u8_in _ (by omega)]
  rfl
theorem U16_ok {v : Nat} {rest : List Int} (hv : v < 65536) (hr : B8 rest) : g101 ⟨be 2 v ++ rest, 0, true⟩ = some ((v : Int), ⟨rest, 0, true⟩) := by
  unfold g101
  rw [show (2 : Int) = ((2 : Nat) : Int) from rfl, number_ok ((be_B8 _ _).append hr) (by omega) (by simp [be_len]), Option.bind_some]
  have e1 : (be 2 v ++ rest).take 2 = be 2 v := by rw [List.take_append_of_le_length (by rw [be_len]; omega), List.take_of_length_le (by rw [be_len]; omega)]
  have e2 : (be 2 v ++ rest).drop 2 = rest := by rw [List.drop_append_of_le_length (by rw [be_len]; omega), List.drop_of_length_le (by rw [be_len]; omega), List.nil_append]
  rw [e1, e2, ofbe_be, Nat.mod_eq_of_lt (by omega), u16_in _ (by omega)]
/-! ### Leaves -/
theorem leaf_loop (m : Nat) (hm : m < 256) (r0 : T_pack_Reader) (rest : List Int) : ∀ (ps : List T_api_Pair) (fuel i : Nat) (acc : List T_api_Pair), i + ps.length = m → ps.length < fuel → (∀ p ∈ ps, p.Key.length ≤ 25 ∧ p.Val.length ≤ 24) → acc.length ≤ i →
    g70_l1 ((m : Int), r0) fuel (i : Int) (layPs ps ++ rest) 0 true acc = some (⟨true, acc ++ ps, [], []⟩, ⟨rest, 0, true⟩) := by
  intro ps
  induction ps with
  | nil =>
    intro fuel i acc hi hf _ _
    obtain ⟨f, rfl⟩ : ∃ f, fuel = f + 1 := ⟨fuel - 1, by omega⟩
    show g70_l1B ((m : Int), r0) (g70_l1 ((m : Int), r0) f) (i : Int) _ 0 true acc = _
    unfold g70_l1B g70_j2
    simp only [List.length_nil, Nat.add_zero] at hi
    rw [if_neg (by simp only; omega)]
    rw [List.append_nil]
    rfl
  | cons p ps ih =>
    intro fuel i acc hi hf hp ha
    obtain ⟨f, rfl⟩ : ∃ f, fuel = f + 1 := ⟨fuel - 1, by omega⟩
    show g70_l1B ((m : Int), r0) (g70_l1 ((m : Int), r0) f) (i : Int) _ 0 true acc = _
    unfold g70_l1B g70_j2
    obtain ⟨h1, h2⟩ := hp p (List.mem_cons_self ..)
    simp only [List.length_cons] at hi hf
    rw [if_pos (by simp only; omega), layPs_cons, layP]
    have t1 := Text_ok (t := p.Key) (rest := tx p.Val ++ (layPs ps ++ rest)) h1 (by omega)
    have t2 := Text_ok (t := p.Val) (rest := layPs ps ++ rest) h2 (by omega)
    simp only [List.append_assoc]
    rw [show (25 : Int) = ((25 : Nat) : Int) from rfl, t1, Option.bind_some]
    simp only
    rw [show (24 : Int) = ((24 : Nat) : Int) from rfl, t2, Option.bind_some, appI_ok (by simp; omega), Option.bind_some, Err_ok rfl, Option.bind_some]
    simp only
    rw [if_neg (by decide), u8_in _ (by omega), show (i : Int) + 1 = ((i + 1 : Nat) : Int) by omega, ih f (i + 1) _ (by omega) (by omega) (fun q hq => hp q (List.mem_cons_of_mem _ hq)) (by simp; omega), List.append_assoc]
    rfl
theorem leaf_any_loop (m : Nat) (hm : m < 256) (r0 : T_pack_Reader) : ∀ (fuel i : Nat) (r : T_pack_Reader) (acc : List T_api_Pair), i ≤ m → m - i < fuel → RdOk r → acc.length ≤ i → (∀ p ∈ acc, B8 p.Key ∧ B8 p.Val) →
    ∃ n r', g70_l1 ((m : Int), r0) fuel (i : Int) r.b r.err r.made acc = some (n, r') ∧ RdOk r' ∧ Fine n ∧ Raw n ∧ n.Leaf = true := by
  intro fuel
  induction fuel with
  | zero => intro i r acc _ h; omega
  | succ f ih =>
    intro i r acc hi hf hr ha hac
    have fin : ∀ (acc : List T_api_Pair), acc.length ≤ 256 → (∀ p ∈ acc, B8 p.Key ∧ B8 p.Val) → Fine ⟨true, acc, [], []⟩ ∧ Raw ⟨true, acc, [], []⟩ := fun acc h1 h2 => ⟨⟨by show acc.length < _; omega, by simp, by simp⟩, ⟨h2, by simp⟩⟩
    have hun : g70_l1 ((m : Int), r0) (f + 1) (i : Int) r.b r.err r.made acc = g70_l1B ((m : Int), r0) (g70_l1 ((m : Int), r0) f) (i : Int) r.b r.err r.made acc := rfl
    rw [hun]
    unfold g70_l1B g70_j2
    by_cases h : i < m
    · obtain ⟨t1, r1, a1, a2, a3, a4⟩ := Text_any hr (most := 25) (by omega)
      obtain ⟨t2, r2, b1, b2, b3, b4⟩ := Text_any a2 (most := 24) (by omega)
      have a1' : g100 (T_pack_Reader.mk r.b r.err r.made) 25 = some (t1, r1) := a1
      have b1' : g100 r1 24 = some (t2, r2) := b1
      have hacc : ∀ p ∈ acc ++ [T_api_Pair.mk t1 t2], B8 p.Key ∧ B8 p.Val := fun p hp => by
        rcases List.mem_append.1 hp with hp | hp
        · exact hac p hp
        · obtain rfl := List.mem_singleton.1 hp
          exact ⟨a3, b3⟩
      rw [if_pos (by simp only; omega), a1', Option.bind_some]
      simp only
      rw [b1', Option.bind_some]
      simp only
      rw [appI_ok (by simp; omega), Option.bind_some, Err_ok b2.made, Option.bind_some]
      by_cases he : r2.err ≠ 0
      · rw [if_pos he]
        obtain ⟨f1, f2⟩ := fin (acc ++ [T_api_Pair.mk t1 t2]) (by simp; omega) hacc
        exact ⟨_, _, rfl, b2, f1, f2, rfl⟩
      · rw [if_neg he, u8_in _ (by omega), show (i : Int) + 1 = ((i + 1 : Nat) : Int) by omega]
        exact ih (i + 1) r2 _ (by omega) (by omega) b2 (by simp; omega) hacc
    · rw [if_neg (by simp only; omega)]
      obtain ⟨f1, f2⟩ := fin acc (by omega) hac
      exact ⟨_, _, rfl, hr, f1, f2, rfl⟩
theorem leaf_any {r : T_pack_Reader} (h : RdOk r) : ∃ n r', g70 r = some (n, r') ∧ RdOk r' ∧ Fine n ∧ Raw n ∧ n.Leaf = true := by
  obtain ⟨v, r1, h1, h2, h3⟩ := U8_any h
  unfold g70
  rw [h1, Option.bind_some]
  exact leaf_any_loop v h3 r1 FUEL 0 r1 [] (by omega) (by unfold FUEL; omega) h2 (by simp) (by simp)
/-! ### Inner nodes -/
theorem inner_loop (m : Nat) (hm : m < 256) (r0 : T_pack_Reader) (rest : List Int) (hrest : B8 rest) : ∀ (ks : List (List Int)) (cs : List Int) (fuel i : Nat) (acc : List (List Int)) (kids : List Int), i + ks.length = m → cs.length = ks.length → ks.length < fuel → (∀ k ∈ ks, B8 k ∧ k.length ≤ 25) → (∀ c ∈ cs, 0 ≤ c ∧ c < 65536) → acc.length ≤ i → kids.length ≤ i + 1 →
    g71_l2 ((m : Int), r0) fuel (i : Int) acc kids (layKs ks cs ++ rest) 0 true = some (⟨false, [], acc ++ ks, kids ++ cs⟩, ⟨rest, 0, true⟩) := by
  intro ks
  induction ks with
  | nil =>
    intro cs fuel i acc kids hi hc hf _ _ _ _
    obtain rfl : cs = [] := List.eq_nil_of_length_eq_zero (by simpa using hc)
    obtain ⟨f, rfl⟩ : ∃ f, fuel = f + 1 := ⟨fuel - 1, by omega⟩
    show g71_l2B ((m : Int), r0) (g71_l2 ((m : Int), r0) f) (i : Int) acc kids _ 0 true = _
    unfold g71_l2B
    simp only [List.length_nil, Nat.add_zero] at hi
    rw [if_neg (by simp only; omega)]
    unfold g71_j1
    rw [List.append_nil, List.append_nil]
    rfl
  | cons k ks ih =>
    intro cs fuel i acc kids hi hc hf hk hcs ha hki
    cases cs with
    | nil => simp at hc
    | cons c cs =>
      obtain ⟨f, rfl⟩ : ∃ f, fuel = f + 1 := ⟨fuel - 1, by omega⟩
      show g71_l2B ((m : Int), r0) (g71_l2 ((m : Int), r0) f) (i : Int) acc kids _ 0 true = _
      unfold g71_l2B
      obtain ⟨h1, h2⟩ := hk k (List.mem_cons_self ..)
      obtain ⟨h3, h4⟩ := hcs c (List.mem_cons_self ..)
      simp only [List.length_cons] at hi hf hc
      have h8 : B8 (layKs ks cs ++ rest) := (layKs_8 ks cs fun q hq => hk q (List.mem_cons_of_mem _ hq)).append hrest
      have t1 := Text_ok (t := k) (rest := be 2 c.toNat ++ (layKs ks cs ++ rest)) h2 (by omega)
      rw [if_pos (by simp only; omega), layKs]
      simp only [List.append_assoc]
      rw [show (25 : Int) = ((25 : Nat) : Int) from rfl, t1, Option.bind_some, appI_ok (by simp; omega), Option.bind_some]
      unfold g71_j3
      simp only
      have e1 : IntKind.i64.wrap (((c.toNat : Nat) : Int)) = c := by rw [i64_in _ (by omega)]; omega
      rw [U16_ok (by omega) h8, Option.bind_some]
      simp only
      rw [e1, appI_ok (by simp; omega), Option.bind_some, Err_ok rfl, Option.bind_some]
      simp only
      rw [if_neg (by decide), u8_in _ (by omega), show (i : Int) + 1 = ((i + 1 : Nat) : Int) by omega,
        ih cs f (i + 1) _ _ (by omega) (by omega) (by omega) (fun q hq => hk q (List.mem_cons_of_mem _ hq)) (fun q hq => hcs q (List.mem_cons_of_mem _ hq)) (by simp; omega) (by simp; omega), List.append_assoc, List.append_assoc]
      rfl
theorem inner_any_loop (m : Nat) (hm : m < 256) (r0 : T_pack_Reader) : ∀ (fuel i : Nat) (r : T_pack_Reader) (acc : List (List Int)) (kids : List Int), i ≤ m → m - i < fuel → RdOk r → acc.length ≤ i → kids.length ≤ i + 1 → (∀ k ∈ acc, B8 k) →
    ∃ n r', g71_l2 ((m : Int), r0) fuel (i : Int) acc kids r.b r.err r.made = some (n, r') ∧ RdOk r' ∧ Fine n ∧ Raw n ∧ n.Leaf = false := by
  intro fuel
  induction fuel with
  | zero => intro i r acc kids _ h; omega
  | succ f ih =>
    intro i r acc kids hi hf hr ha hki hac
    have fin : ∀ (acc : List (List Int)) (kids : List Int), acc.length ≤ 256 → kids.length ≤ 260 → (∀ k ∈ acc, B8 k) → Fine ⟨false, [], acc, kids⟩ ∧ Raw ⟨false, [], acc, kids⟩ := fun acc kids h1 h3 h2 => ⟨⟨by simp, by show acc.length < _; omega, by show kids.length < _; omega⟩, ⟨by simp, h2⟩⟩
    have hun : g71_l2 ((m : Int), r0) (f + 1) (i : Int) acc kids r.b r.err r.made = g71_l2B ((m : Int), r0) (g71_l2 ((m : Int), r0) f) (i : Int) acc kids r.b r.err r.made := rfl
    rw [hun]
    unfold g71_l2B
    by_cases h : i < m
    · obtain ⟨t1, r1, a1, a2, a3, a4⟩ := Text_any hr (most := 25) (by omega)
      obtain ⟨v, r2, b1, b2, b3⟩ := U16_any a2
      have a1' : g100 (T_pack_Reader.mk r.b r.err r.made) 25 = some (t1, r1) := a1
      have b1' : g101 (T_pack_Reader.mk r1.b r1.err r1.made) = some ((v : Int), r2) := b1
      have hacc : ∀ k ∈ acc ++ [t1], B8 k := fun p hp => by
        rcases List.mem_append.1 hp with hp | hp
        · exact hac p hp
        · obtain rfl := List.mem_singleton.1 hp
          exact a3
      rw [if_pos (by simp only; omega), a1', Option.bind_some]
      simp only
      rw [appI_ok (by simp; omega), Option.bind_some]
      unfold g71_j3 g71_j1
      rw [b1', Option.bind_some]
      simp only
      rw [appI_ok (by simp; omega), Option.bind_some, Err_ok b2.made, Option.bind_some]
      by_cases he : r2.err ≠ 0
      · rw [if_pos he]
        obtain ⟨f1, f2⟩ := fin (acc ++ [t1]) (kids ++ [IntKind.i64.wrap (v : Int)]) (by simp; omega) (by simp; omega) hacc
        exact ⟨_, _, rfl, b2, f1, f2, rfl⟩
      · rw [if_neg he, u8_in _ (by omega), show (i : Int) + 1 = ((i + 1 : Nat) : Int) by omega]
        exact ih (i + 1) r2 _ _ (by omega) (by omega) b2 (by simp; omega) (by simp; omega) hacc
    · rw [if_neg (by simp only; omega)]
      obtain ⟨f1, f2⟩ := fin acc kids (by omega) (by omega) hac
      exact ⟨_, _, rfl, hr, f1, f2, rfl⟩
theorem inner_any {r : T_pack_Reader} (h : RdOk r) : ∃ n r', g71 r = some (n, r') ∧ RdOk r' ∧ Fine n ∧ Raw n ∧ n.Leaf = false := by
  obtain ⟨v, r1, h1, h2, h3⟩ := U8_any h
  obtain ⟨u, r2, k1, k2, k3⟩ := U16_any h2
  unfold g71
  rw [h1, Option.bind_some]
  simp only
  rw [k1, Option.bind_some]
  exact inner_any_loop v h3 r1 FUEL 0 r2 [] [IntKind.i64.wrap (u : Int)] (by omega) (by unfold FUEL; omega) k2 (by simp) (by simp) (by simp)
/-! ### Get -/
theorem get_j1 {b : List Int} (hb : B8 b) {n : T_api_Node} (hf : Fine n) (hr : Raw n) (rb : List Int) (re : Int) : g32_j1 b rb re true n.Leaf n.Pairs n.Keys n.Kids = some (if re = 0 ∧ chkN n = 0 ∧ b = padN n then (n, 0) else (N0, 100)) := by
  unfold g32_j1
  rw [Err_ok rfl, Option.bind_some]
  have e : T_api_Node.mk n.Leaf n.Pairs n.Keys n.Kids = n := rfl
  by_cases c1 : re = 0
  · rw [if_neg (show ¬ re ≠ 0 from fun h => h c1), e, put_any hf, Option.bind_some]
    by_cases c2 : chkN n = 0
    · obtain ⟨m, hs⟩ := chkN_zero c2
      rw [if_pos c2, if_neg (by simp)]
      simp only
      rw [equal_ok hb (padN_8 m hr), Option.bind_some]
      by_cases c3 : b = padN n
      · rw [if_neg (by simp [c3]), if_pos ⟨c1, c2, c3⟩]
      · rw [if_pos (by simp [c3]), if_neg (fun h => c3 h.2.2)]; rfl
    · rw [if_neg c2, if_pos (by simpa using c2), if_neg (fun h => c2 h.2.1)]; rfl
  · rw [if_pos c1, if_neg (fun h => c1 h.1)]; rfl
/-- What Get tells of any bytes. -/
theorem get_any {b : List Int} (hb : B8 b) (hl : b.length ≤ 1000000) (kind : Int) : (g32 kind b = some (N0, 100)) ∨ g32 kind b = some (N0, 42) ∨
    ∃ n, g32 kind b = some (n, 0) ∧ Fine n ∧ Raw n ∧ kind = kindN n ∧ chkN n = 0 ∧ b = padN n := by
  unfold g32
  rw [read_ok (by omega), Option.bind_some]
  have hr : RdOk ⟨b, 0, true⟩ := ⟨rfl, hb, hl⟩
  by_cases c3 : kind = 3
  · rw [if_pos c3]
    obtain ⟨n, r', h1, h2, h3, h4, h5⟩ := leaf_any hr
    rw [h1, Option.bind_some]
    simp only
    rw [h2.made, get_j1 hb h3 h4]
    by_cases c : r'.err = 0 ∧ chkN n = 0 ∧ b = padN n
    · rw [if_pos c]
      exact .inr (.inr ⟨n, rfl, h3, h4, by rw [kindN, h5]; exact c3, c.2.1, c.2.2⟩)
    · rw [if_neg c]; exact .inl rfl
  · rw [if_neg c3]
    by_cases c4 : kind = 4
    · rw [if_pos c4]
      obtain ⟨n, r', h1, h2, h3, h4, h5⟩ := inner_any hr
      rw [h1, Option.bind_some]
      simp only
      rw [h2.made, get_j1 hb h3 h4]
      by_cases c : r'.err = 0 ∧ chkN n = 0 ∧ b = padN n
      · rw [if_pos c]
        exact .inr (.inr ⟨n, rfl, h3, h4, by rw [kindN, h5]; exact c4, c.2.1, c.2.2⟩)
      · rw [if_neg c]; exact .inl rfl
    · rw [if_neg c4]; exact .inr (.inl rfl)
/-- A node that may be, and fits, is got of its page as it was. -/
theorem get_pad {n : T_api_Node} (hf : Fine n) (hr : Raw n) (hc : chkN n = 0) : g32 (kindN n) (padN n) = some (n, 0) := by
  obtain ⟨m, hs⟩ := chkN_zero hc
  have h8 := padN_8 m hr
  have hlen := padN_len m hs
  unfold g32
  rw [read_ok (by omega), Option.bind_some]
  have done : ∀ (r : T_pack_Reader), r.err = 0 → r.made = true → g32_j1 (padN n) r.b r.err r.made n.Leaf n.Pairs n.Keys n.Kids = some (n, 0) := by
    intro r h1 h2
    rw [h2, get_j1 h8 hf hr, if_pos ⟨h1, hc, rfl⟩]
  cases hl : n.Leaf with
  | true =>
    obtain ⟨i1, i2, i3, i4⟩ := m.leaf hl
    have hk : kindN n = 3 := by rw [kindN, hl]; rfl
    have en : (⟨true, [] ++ n.Pairs, [], []⟩ : T_api_Node) = n := by cases n; simp at *; simp [hl, i3, i4]
    have hp : padN n = (n.Pairs.length : Int) :: (layPs n.Pairs ++ List.replicate (240 - (layN n).length) 0) := by
      unfold padN
      rw [show layN n = (n.Pairs.length : Int) :: layPs n.Pairs by unfold layN; rw [hl]; rfl]
      rfl
    have hr8 : B8 (layPs n.Pairs ++ List.replicate (240 - (layN n).length) 0) := fun x hx => h8 x (by rw [hp]; exact List.mem_cons_of_mem _ hx)
    have hleaf : g70 ⟨padN n, 0, true⟩ = some (n, ⟨List.replicate (240 - (layN n).length) 0, 0, true⟩) := by
      unfold g70
      rw [hp, U8_ok (by omega) hr8, Option.bind_some]
      simp only
      have := leaf_loop n.Pairs.length (by omega) ⟨layPs n.Pairs ++ List.replicate (240 - (layN n).length) 0, 0, true⟩ (List.replicate (240 - (layN n).length) 0) n.Pairs FUEL 0 [] (by omega) (by unfold FUEL; omega) (fun p hp => ⟨m.pkey hp, i1 p hp⟩) (by simp)
      rw [en] at this
      exact this
    rw [hk, if_pos rfl, hleaf, Option.bind_some]
    exact done _ rfl rfl
  | false =>
    obtain ⟨i1, i2, i3, i4, i5⟩ := m.inner hl
    have hk : kindN n = 4 := by rw [kindN, hl]; rfl
    obtain ⟨c0, cs, hk0⟩ : ∃ c cs, n.Kids = c :: cs := List.exists_cons_of_length_pos (by omega)
    have hc0 := i1 c0 (by rw [hk0]; exact List.mem_cons_self ..)
    have en : (⟨false, [], [] ++ n.Keys, [c0] ++ cs⟩ : T_api_Node) = n := by cases n; simp at *; simp [hl, i2, hk0]
    have hp : padN n = (n.Keys.length : Int) :: (be 2 c0.toNat ++ (layKs n.Keys cs ++ List.replicate (240 - (layN n).length) 0)) := by
      unfold padN
      rw [show layN n = (n.Keys.length : Int) :: (be 2 c0.toNat ++ layKs n.Keys cs) by unfold layN; rw [hl, hk0]; rfl]
      simp
    have hr8 : B8 (be 2 c0.toNat ++ (layKs n.Keys cs ++ List.replicate (240 - (layN n).length) 0)) := fun x hx => h8 x (by rw [hp]; exact List.mem_cons_of_mem _ hx)
    have hinner : g71 ⟨padN n, 0, true⟩ = some (n, ⟨List.replicate (240 - (layN n).length) 0, 0, true⟩) := by
      unfold g71
      rw [hp, U8_ok (by omega) hr8, Option.bind_some]
      simp only
      rw [U16_ok (by omega) (fun x hx => hr8 x (List.mem_append_right _ hx)), Option.bind_some]
      simp only
      have e1 : IntKind.i64.wrap (((c0.toNat : Nat) : Int)) = c0 := by rw [i64_in _ (by omega)]; omega
      rw [e1]
      have := inner_loop n.Keys.length (by omega) ⟨be 2 c0.toNat ++ (layKs n.Keys cs ++ List.replicate (240 - (layN n).length) 0), 0, true⟩ (List.replicate (240 - (layN n).length) 0) (B8.rep _) n.Keys cs FUEL 0 [] [c0] (by omega) (by rw [hk0] at i5; simpa using i5) (by unfold FUEL; omega) (fun k hk => ⟨hr.keys k hk, m.key hk⟩)
        (fun c hc => by have := i1 c (by rw [hk0]; exact List.mem_cons_of_mem _ hc); omega) (by simp) (by simp)
      rw [en] at this
      exact this
    rw [hk, if_neg (by decide), if_pos rfl, hinner, Option.bind_some]
    exact done _ rfl rfl
end Go.Proofs.Ytefjbhogpgihaaa
