/- FreemapDoes, the plain law. -/
import Derived.Test.YtofhmhbffdoiaaaDoorDA
namespace Go.Proofs.YtofhmhbffdoiaaaDoor
open Go Go.SX Go.VX
set_option maxRecDepth 100000
set_option linter.unusedVariables false
set_option linter.unusedSimpArgs false
def lastAt (xs : List Int) (k : Nat) : Int := if k = 0 then -1 else xs.getD (k - 1) 0
theorem lst2_loop (n : Int) {xs : List Int} (hx : xs.length ≤ 1000000) : ∀ (m k : Nat), k ≤ xs.length → xs.length - k < m → -1 ≤ lastAt xs k → s22_l1 m n xs (k : Int) = some (Lst n (lastAt xs k) (xs.drop k)) := by
  intro m
  induction m with
  | zero => intro k _ h; omega
  | succ m ih =>
    intro k hk hm hl
    show s22_l1B (s22_j1 (s22_l1 m)) n xs (k : Int) = _
    unfold s22_l1B
    by_cases h : k < xs.length
    · rw [if_pos (by omega), getI_nat, List.getElem?_eq_getElem h]
      simp only [Option.bind_some]
      rw [List.drop_eq_getElem_cons h]
      by_cases h1 : xs[k] < 0
      · rw [if_pos h1]; unfold Lst; rw [if_pos (Or.inl (by omega))]; rfl
      · rw [if_neg h1]
        by_cases h2 : xs[k] ≥ n
        · rw [if_pos h2]; unfold Lst; rw [if_pos (Or.inr h2)]; rfl
        · rw [if_neg h2]
          have next : ∀ (hb : ¬ xs[k] ≤ lastAt xs k), s22_j1 (s22_l1 m) n xs (k : Int) false = some (Lst n (lastAt xs k) (xs[k] :: xs.drop (k + 1))) := fun hb => by
            unfold s22_j1 s22_j1F
            simp only [Bool.false_eq_true, if_false]
            have e : lastAt xs (k + 1) = xs[k] := by
              unfold lastAt
              rw [if_neg (by omega), Nat.add_sub_cancel, List.getD_eq_getElem?_getD, List.getElem?_eq_getElem h]; rfl
            rw [show (k : Int) + 1 = ((k + 1 : Nat) : Int) by omega, i64_nat (by omega), ih (k + 1) (by omega) (by omega) (by rw [e]; omega), e]
            conv => rhs; unfold Lst
            rw [if_neg (by omega)]
          by_cases h3 : (k : Int) > 0
          · rw [if_pos h3]
            have hk1 : k - 1 < xs.length := by omega
            rw [show (k : Int) - 1 = ((k - 1 : Nat) : Int) by omega, i64_nat (by omega), getI_nat, List.getElem?_eq_getElem hk1]
            simp only [Option.bind_some]
            have e : lastAt xs k = xs[k - 1] := by
              unfold lastAt
              rw [if_neg (by omega), List.getD_eq_getElem?_getD, List.getElem?_eq_getElem hk1]; rfl
            by_cases h4 : xs[k - 1] ≥ xs[k]
            · rw [decide_eq_true h4]; unfold Lst; rw [if_pos (Or.inl (by omega))]; rfl
            · rw [decide_eq_false h4]; exact next (by omega)
          · rw [if_neg h3]
            have e : lastAt xs k = -1 := by unfold lastAt; rw [if_pos (by omega)]
            exact next (by omega)
    · rw [if_neg (by omega)]
      obtain rfl : k = xs.length := by omega
      rw [List.drop_length]; rfl
theorem lst2_ok (n : Int) {xs : List Int} (hx : xs.length ≤ 1000000) : s22 n xs = some (Lst n (-1) xs) := by
  have := lst2_loop n hx FUEL 0 (by omega) (by unfold FUEL; omega) (by unfold lastAt; simp)
  rw [List.drop_zero] at this
  exact this
theorem may2_ok (n : Int) : s53 n = some (mayP n) := fmay_ok n
/-- What a page is. -/
def cl (f h o : Bool) : Int := if f = true then 0 else if h = true then 3 else if o = true then 2 else 1
def cls (m : Mp) (q : Nat) : Int := cl (m.fr q) (m.he q) (m.ow q)
structure DI (n : Nat) (m : Mp) : Prop where
  fh : ∀ q, q < n → m.fr q = true → m.he q = false
  fo : ∀ q, q < n → m.fr q = true → m.ow q = false
  ho : ∀ q, q < n → m.he q = true → m.ow q = false
  wa : ∀ q, q < n → m.wa q = (m.fr q || m.ow q)
theorem cls_fr (m : Mp) (q : Nat) : cls m q = 0 ↔ m.fr q = true := by
  unfold cls
  cases m.fr q <;> cases m.he q <;> cases m.ow q <;> decide
theorem cls_he {n : Nat} {m : Mp} (d : DI n m) {q : Nat} (hq : q < n) : cls m q = 3 ↔ m.he q = true := by
  have h1 := d.fh q hq
  unfold cls
  cases hf : m.fr q <;> cases hh : m.he q <;> cases ho : m.ow q <;> rw [hf, hh] at h1 <;> first | decide | (exact absurd (h1 rfl) (by decide))
theorem cls_ow {n : Nat} {m : Mp} (d : DI n m) {q : Nat} (hq : q < n) : cls m q = 2 ↔ m.ow q = true := by
  have h1 := d.fo q hq
  have h2 := d.ho q hq
  unfold cls
  cases hf : m.fr q <;> cases hh : m.he q <;> cases ho : m.ow q <;> rw [hf, ho] at h1 <;> rw [hh, ho] at h2 <;> first | decide | (exact absurd (h1 rfl) (by decide)) | (exact absurd (h2 rfl) (by decide))
theorem cls_tk (m : Mp) (q : Nat) : cls m q = 1 ∨ cls m q = 2 ↔ m.fr q = false ∧ m.he q = false := by
  unfold cls
  cases m.fr q <;> cases m.he q <;> cases m.ow q <;> decide
theorem DI.take {n : Nat} {m : Mp} (d : DI n m) {r k : Int} (hk : 1 ≤ k) (ha : AllIn n m.fr r k) : DI n (takeM m r.toNat k.toNat) := by
  obtain ⟨a1, a2, a3⟩ := ha
  have fr : ∀ q, inR r.toNat k.toNat q = true → m.fr q = true := fun q h => by
    unfold inR at h
    have := of_decide_eq_true h
    exact a3 q (by omega) (by omega)
  refine ⟨fun q hq hf => ?_, fun q hq hf => ?_, fun q hq hf => ?_, fun q hq => ?_⟩
  · simp only [takeM, Bool.and_eq_true] at hf ⊢
    exact d.fh q hq hf.1
  · simp only [takeM, Bool.and_eq_true, Bool.not_eq_true'] at hf ⊢
    rw [d.fo q hq hf.1, hf.2]; rfl
  · simp only [takeM] at hf ⊢
    rw [d.ho q hq hf, Bool.false_or]
    cases hi : inR r.toNat k.toNat q
    · rfl
    · have := d.fh q hq (fr q hi)
      rw [hf] at this; cases this
  · simp only [takeM]
    rw [d.wa q hq]
    cases hi : inR r.toNat k.toNat q
    · simp
    · rw [fr q hi]; simp
theorem cls_take (m : Mp) {r k : Int} (hk : 1 ≤ k) {n : Nat} (d : DI n m) (ha : AllIn n m.fr r k) : Pl n (cls (takeM m r.toNat k.toNat)) = Pl n (newc (cls m) r.toNat k.toNat) := Pl_congr fun q hq => by
  obtain ⟨a1, a2, a3⟩ := ha
  show cl (m.fr q && !inR r.toNat k.toNat q) (m.he q) (m.ow q || inR r.toNat k.toNat q) = newc (cls m) r.toNat k.toNat q
  unfold newc inR
  by_cases h : r.toNat ≤ q ∧ q < r.toNat + k.toNat
  · have := a3 q (by omega) (by omega)
    rw [if_pos h, decide_eq_true h, this, d.fh q hq this]
    cases m.ow q <;> rfl
  · rw [if_neg h, decide_eq_false h]
    unfold cls
    cases m.fr q <;> cases m.he q <;> cases m.ow q <;> rfl
theorem DI.free {n : Nat} {m : Mp} (d : DI n m) {p : Int} (hp : hasP n m p) : DI n (freeM m p.toNat) := by
  obtain ⟨a, c, e, f⟩ := hp
  unfold freeM
  by_cases ho : m.ow p.toNat = true
  · rw [if_pos ho]
    refine ⟨fun q hq hf => ?_, fun q hq hf => ?_, fun q hq hf => ?_, fun q hq => ?_⟩
    · simp only [upd] at hf ⊢
      by_cases h : q = p.toNat
      · rw [h]; exact f
      · rw [if_neg h] at hf; exact d.fh q hq hf
    · simp only [upd] at hf ⊢
      by_cases h : q = p.toNat
      · rw [if_pos h]
      · rw [if_neg h] at hf ⊢; exact d.fo q hq hf
    · simp only [upd] at hf ⊢
      by_cases h : q = p.toNat
      · rw [if_pos h]
      · rw [if_neg h]; exact d.ho q hq hf
    · simp only [upd]
      by_cases h : q = p.toNat
      · rw [if_pos h, d.wa q hq, h, ho]; simp
      · rw [if_neg h, if_neg h, d.wa q hq]
  · rw [if_neg ho]
    have ho' : m.ow p.toNat = false := by simpa using ho
    refine ⟨fun q hq hf => ?_, fun q hq hf => ?_, fun q hq hf => ?_, fun q hq => ?_⟩
    · simp only [upd] at hf ⊢
      by_cases h : q = p.toNat
      · rw [h, e] at hf; cases hf
      · rw [if_neg h]; exact d.fh q hq hf
    · simp only [upd] at hf ⊢
      by_cases h : q = p.toNat
      · rw [if_pos h]
      · rw [if_neg h]; exact d.fo q hq hf
    · simp only [upd] at hf ⊢
      by_cases h : q = p.toNat
      · rw [if_pos h]
      · rw [if_neg h] at hf ⊢; exact d.ho q hq hf
    · simp only [upd]
      by_cases h : q = p.toNat
      · rw [if_pos h, d.wa q hq, h, ho', e]
      · rw [if_neg h, d.wa q hq]
theorem cls_free {n : Nat} {m : Mp} (d : DI n m) {p : Int} (hp : hasP n m p) : Pl n (cls (freeM m p.toNat)) = Pl n (updc (cls m) p.toNat (if cls m p.toNat = 2 then 0 else 3)) := Pl_congr fun q hq => by
  obtain ⟨a, c, e, f⟩ := hp
  unfold updc freeM
  by_cases ho : m.ow p.toNat = true
  · rw [if_pos ho, if_pos ((cls_ow d (by omega)).2 ho)]
    show cl (upd m.fr p.toNat true q) (m.he q) (upd m.ow p.toNat false q) = _
    unfold upd
    by_cases h : q = p.toNat
    · rw [if_pos h, if_pos h, if_pos h]; rfl
    · rw [if_neg h, if_neg h, if_neg h]; rfl
  · rw [if_neg ho, if_neg (fun h => ho ((cls_ow d (by omega)).1 h))]
    show cl (m.fr q) (upd m.he p.toNat true q) (upd m.ow p.toNat false q) = _
    unfold upd
    by_cases h : q = p.toNat
    · rw [if_pos h, if_pos h, if_pos h, h, e]; rfl
    · rw [if_neg h, if_neg h, if_neg h]; rfl
theorem DI.new (n : Nat) (f : Nat → Bool) : DI n (newM f) := ⟨fun _ _ _ => rfl, fun _ _ _ => rfl, fun _ _ _ => rfl, fun q _ => by show f q = (f q || false); simp⟩
theorem cls_commit {n : Nat} {m : Mp} (d : DI n m) : Pl n (cls (newM fun q => m.fr q || m.he q)) = Pl n (comc (cls m)) := Pl_congr fun q hq => by
  show cl (m.fr q || m.he q) false false = comc (cls m) q
  unfold comc cls
  have h1 := d.fh q hq
  cases hf : m.fr q <;> cases hh : m.he q <;> cases ho : m.ow q <;> rw [hf, hh] at h1 <;> first | rfl | (exact absurd (h1 rfl) (by decide))
theorem cls_abort {n : Nat} {m : Mp} (d : DI n m) : Pl n (cls (newM m.wa)) = Pl n (aboc (cls m)) := Pl_congr fun q hq => by
  show cl (m.wa q) false false = aboc (cls m) q
  rw [d.wa q hq]
  unfold aboc cls
  have h1 := d.fh q hq
  have h2 := d.fo q hq
  have h3 := d.ho q hq
  cases hf : m.fr q <;> cases hh : m.he q <;> cases ho : m.ow q <;> rw [hf, hh] at h1 <;> rw [hf, ho] at h2 <;> rw [hh, ho] at h3 <;> first | rfl | (exact absurd (h1 rfl) (by decide)) | (exact absurd (h2 rfl) (by decide)) | (exact absurd (h3 rfl) (by decide))
abbrev DT := (Unit × Unit × Unit × Unit) × Unit × (Int × Unit) × (Int × Unit) × (Int × Unit) × (Int × Unit) × List Int × List Int × List Int × List Int × List Int
abbrev dt (n : Nat) (m : Mp) : DT := (((), (), (), ()), (), ((n : Int), ()), ((n : Int), ()), ((n : Int), ()), ((n : Int), ()), Pl n (cls m), Wd n m.fr, Wd n m.he, Wd n m.ow, Wd n m.wa)
theorem pgs_congr {n : Nat} {f g : Nat → Bool} (h : ∀ q, q < n → f q = g q) : pgs n f 0 = pgs n g 0 := by
  unfold pgs
  apply List.filter_congr
  intro q hq
  rw [List.mem_range'_1] at hq
  exact h q (by omega)
theorem pgs_count {n : Nat} {f : Nat → Bool} : (castL (pgs n f 0)).length = (List.range n).countP f := by
  unfold castL
  rw [List.length_map, pgs_zero, List.countP_eq_length_filter]
section
variable {n : Nat} (h0 : 1 ≤ n) (h1 : n ≤ 2048)
include h0 h1
theorem same_loop {m : Mp} (d : DI n m) : ∀ (fuel : Nat) (p : Int), -1 ≤ p → p ≤ 42 → 42 - p < fuel → s36_v2_l1 fuel p n n n n (Pl n (cls m)) (Wd n m.fr) (Wd n m.he) (Wd n m.ow) (Wd n m.wa) = some (true, dt n m) := by
  intro fuel
  induction fuel with
  | zero => intro p _ _ h; omega
  | succ fuel ih =>
    intro p hp hp2 hf
    show s36_v2_l1B (s36_v2_j2 (s36_v2_l1 fuel)) p n n n n (Pl n (cls m)) (Wd n m.fr) (Wd n m.he) (Wd n m.ow) (Wd n m.wa) = _
    unfold s36_v2_l1B
    rw [Pl_len]
    by_cases h : p ≤ (if (40 : Int) < (n : Int) then 40 else (n : Int))
    · have h40 : p ≤ 40 := by split at h <;> omega
      rw [if_pos h, mhas_eq h0 h1]
      simp only [Option.bind_some]
      rw [ref_has (cls m)]
      simp only [Option.bind_some]
      have e1 : (0 ≤ p ∧ p < n ∧ (cls m p.toNat = 1 ∨ cls m p.toNat = 2)) ↔ (0 ≤ p ∧ p < n ∧ m.fr p.toNat = false ∧ m.he p.toNat = false) := by rw [cls_tk]
      rw [decide_eq_decide.2 e1, if_neg (fun h => h rfl), mine_eq h0 h1]
      simp only [Option.bind_some]
      rw [ref_mine (cls m)]
      simp only [Option.bind_some]
      have e2 : (0 ≤ p ∧ p < n ∧ cls m p.toNat = 2) ↔ (0 ≤ p ∧ p < n ∧ m.ow p.toNat = true) := ⟨fun ⟨a, b, c⟩ => ⟨a, b, (cls_ow d (by omega)).1 c⟩, fun ⟨a, b, c⟩ => ⟨a, b, (cls_ow d (by omega)).2 c⟩⟩
      rw [decide_eq_decide.2 e2, decide_eq_false (fun h => h rfl)]
      unfold s36_v2_j2 s36_v2_j2F
      rw [if_neg (by decide), i64_in _ (by omega)]
      exact ih (p + 1) (by omega) (by omega) (by omega)
    · rw [if_neg h]
theorem same_all {m : Mp} (d : DI n m) : s36_v2 n n n n (Pl n (cls m)) (Wd n m.fr) (Wd n m.he) (Wd n m.ow) (Wd n m.wa) = some (true, dt n m) := by
  have of0 := ref_of h1 (cls m) 0 0
  have of1 := ref_of h1 (cls m) 1 2
  have of3 := ref_of h1 (cls m) 3 3
  have e0 : pgs n (isc (cls m) 0 0) 0 = pgs n m.fr 0 := pgs_congr fun q _ => by
    unfold isc
    rw [Bool.or_self]
    cases hf : m.fr q with
    | true => exact decide_eq_true ((cls_fr m q).2 hf)
    | false => exact decide_eq_false (fun h => by rw [(cls_fr m q).1 h] at hf; cases hf)
  have e1 : pgs n (isc (cls m) 1 2) 0 = pgs n (tk m) 0 := pgs_congr fun q _ => by
    unfold isc tk
    rw [← Bool.decide_or]
    by_cases h : cls m q = 1 ∨ cls m q = 2
    · rw [decide_eq_true h, ((cls_tk m q).1 h).1, ((cls_tk m q).1 h).2]; rfl
    · rw [decide_eq_false h]
      have h' : ¬ (m.fr q = false ∧ m.he q = false) := fun h2 => h ((cls_tk m q).2 h2)
      by_cases hf : m.fr q = true
      · rw [hf]; rfl
      · have hf' : m.fr q = false := by simpa using hf
        by_cases hh : m.he q = true
        · rw [hf', hh]; rfl
        · exact absurd ⟨hf', by simpa using hh⟩ h'
  have e3 : pgs n (isc (cls m) 3 3) 0 = pgs n m.he 0 := pgs_congr fun q hq => by
    unfold isc
    rw [Bool.or_self]
    cases hf : m.he q with
    | true => exact decide_eq_true ((cls_he d hq).2 hf)
    | false => exact decide_eq_false (fun h => by rw [(cls_he d hq).1 h] at hf; cases hf)
  rw [e0] at of0
  rw [e1] at of1
  rw [e3] at of3
  have loop := same_loop h0 h1 d FUEL (-1) (by omega) (by omega) (by unfold FUEL; omega)
  have hfin : s36_v2_j1 false n n n n (Pl n (cls m)) (Wd n m.fr) (Wd n m.he) (Wd n m.ow) (Wd n m.wa) = some (true, dt n m) := by
    unfold s36_v2_j1
    generalize s36_v2_l1 FUEL = Q at loop ⊢
    unfold s36_v2_j1F
    rw [if_neg (by decide)]
    exact loop
  unfold s36_v2
  generalize s36_v2_j1 = J at hfin ⊢
  unfold s36_v2F
  rw [of0]
  simp only [Option.bind_some]
  rw [taken_eq h0 h1]
  simp only [Option.bind_some]
  rw [of1]
  simp only [Option.bind_some]
  rw [eq_ok (by have := castL_len (n := n) (f := tk m); omega), Option.bind_some, decide_eq_true rfl, if_neg (by simp), avail_eq h0 h1]
  simp only [Option.bind_some]
  rw [pgs_count, if_neg (fun h => h rfl), held_eq h0 h1]
  simp only [Option.bind_some]
  rw [of3]
  simp only [Option.bind_some]
  rw [pgs_count, if_neg (fun h => h rfl)]
  have e : s31 (n : Int) n n n (Wd n m.fr) (Wd n m.he) (Wd n m.ow) (Wd n m.wa) = some (((), ()), (((), (), (), ()), ((n : Int), ()), ((n : Int), ()), ((n : Int), ()), ((n : Int), ()), Wd n m.fr, Wd n m.he, Wd n m.ow, Wd n m.wa, ())) := rfl
  rw [e]
  simp only [Option.bind_some]
  have hlen := castL_len (n := n) (f := m.fr)
  have t1 := told_eq h0 h1 m 1048576
  rw [show ((1048576 : Nat) : Int) = 1048576 from rfl, List.take_of_length_le (by omega)] at t1
  rw [t1]
  simp only [Option.bind_some]
  rw [eq_ok (by omega), Option.bind_some, decide_eq_true rfl, if_neg (by simp), e]
  simp only [Option.bind_some]
  have t2 := told_eq h0 h1 m 2
  rw [show ((2 : Nat) : Int) = 2 from rfl] at t2
  rw [t2]
  simp only [Option.bind_some]
  have hl : (((castL (pgs n m.fr 0)).take 2).length : Int) = if (((List.range n).countP m.fr : Nat) : Int) < 2 then (((List.range n).countP m.fr : Nat) : Int) else 2 := by
    rw [List.length_take, pgs_count]
    split <;> omega
  rw [hl, decide_eq_false (fun h => h rfl)]
  exact hfin
theorem clone_map (m : Mp) : s37 n n n n (Wd n m.fr) (Wd n m.he) (Wd n m.ow) (Wd n m.wa) = some ((), (((), (), (), ()), ((n : Int), ()), ((n : Int), ()), ((n : Int), ()), ((n : Int), ()), Wd n m.fr, Wd n m.he, Wd n m.ow, Wd n m.wa, ((), (), (), ()), ((n : Int), ()), ((n : Int), ()), ((n : Int), ()), ((n : Int), ()), Wd n m.fr, Wd n m.he, Wd n m.ow, Wd n m.wa)) := by
  unfold s37 s37F
  rw [made_eq]
  simp only [Option.bind_some]
  rw [clone_eq _ h0 h1]
  simp only [Option.bind_some]
  rw [clone_eq _ h0 h1]
  simp only [Option.bind_some]
  rw [clone_eq _ h0 h1]
  simp only [Option.bind_some]
  rw [clone_eq _ h0 h1]
  rfl
/-- Both answer the same to what is asked. -/
theorem alloc_both {m : Mp} (d : DI n m) (k : Int) (hk : k ≤ 9223372036854775807) : ∃ a b m', DI n m' ∧ s14_v2 k n n n n (Wd n m.fr) (Wd n m.he) (Wd n m.ow) (Wd n m.wa) = some ((a, b), mt n m') ∧ s58_v2 k (Pl n (cls m)) = some ((a, b), ((), Pl n (cls m'))) := by
  obtain ⟨r, hr, e⟩ := alloc_eq h0 h1 m k
  obtain ⟨r', hr', e'⟩ := ref_alloc h1 (cls m) k hk
  rw [e, e']
  by_cases h : k < 1
  · rw [if_pos h, if_pos h]; exact ⟨0, 1, m, d, rfl, rfl⟩
  · rw [if_neg h, if_neg h]
    have hfr : freeB (cls m) = m.fr := by
      funext q
      unfold freeB
      cases hf : m.fr q with
      | true => exact decide_eq_true ((cls_fr m q).2 hf)
      | false => exact decide_eq_false (fun h => by rw [(cls_fr m q).1 h] at hf; cases hf)
    have h2 := hr' (by omega)
    rw [hfr] at h2
    have h3 := hr (by omega)
    obtain rfl := h3.one h2
    by_cases h4 : r < 0
    · rw [if_pos h4, if_pos h4]; exact ⟨0, 6, m, d, rfl, rfl⟩
    · rw [if_neg h4, if_neg h4]
      have ha : AllIn n m.fr r k := by
        rcases h3 with ⟨h, _⟩ | ⟨h, _⟩
        · omega
        · exact h
      rw [← cls_take m (by omega) d ha]
      exact ⟨r, 0, _, d.take (by omega) ha, rfl, rfl⟩
end
end Go.Proofs.YtofhmhbffdoiaaaDoor
