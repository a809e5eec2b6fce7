/- SX, part n: bytes as a string; copies into slices of one's own. -/
import Derived.Test.YtclnddebhjjpfaaDoorSXm
import Derived.Laws.BytesArg
namespace Go.SX
open Go Go.RowKit
variable {rd : Option Nat} {P : Program} {T : Tb} {E : List Value} {ds : List Deferred} {w w0 w1 : World} {M I I1 : Nat → Prop} {L L1 : List It}

theorem slSm {τ : Type} {r : Rp τ} {A : Option Addr} {xs ys : List τ} {l h m : Int} {c size : Nat} (hn : size = r.n) (hc : xs.length ≤ c ∧ c ≤ 9223372036854775807) (e : Elems r I w A xs) (g : cutI xs l h = some ys) (hm : h ≤ m ∧ m ≤ (xs.length : Int)) :
    ∃ A' c', (0 ≤ l ∧ l ≤ h ∧ h ≤ m ∧ m ≤ (c : Int)) ∧ (ys.length ≤ c' ∧ c' ≤ 9223372036854775807) ∧ Elems r I w A' ys ∧ cutA A l.toNat m.toNat size = A' ∧ h.toNat - l.toNat = ys.length ∧ m.toNat - l.toNat = c' := by
  obtain ⟨⟨h1, h2, h3⟩, h4, h5⟩ := cutS g
  refine ⟨_, _, ⟨h1, h2, hm.1, by omega⟩, ?_, Elems.cut (c := m.toNat) hn e h4 (by omega) (by omega), rfl, h5, rfl⟩
  omega
theorem slS0m {τ : Type} {r : Rp τ} {A : Option Addr} {xs ys : List τ} {h m : Int} {c : Nat} (hc : xs.length ≤ c ∧ c ≤ 9223372036854775807) (e : Elems r I w A xs) (g : cutI xs 0 h = some ys) (hm : h ≤ m ∧ m ≤ (xs.length : Int)) :
    ∃ c', (0 ≤ h ∧ h ≤ m ∧ m ≤ (c : Int)) ∧ (ys.length ≤ c' ∧ c' ≤ 9223372036854775807) ∧ Elems r I w A ys ∧ h.toNat = ys.length ∧ m.toNat = c' := by
  obtain ⟨h1, h2, h3, h4⟩ := slS0 hc e g
  refine ⟨_, ⟨h1.1.1, hm.1, by omega⟩, ?_, h3, h4, rfl⟩
  omega
theorem repl_int {k : IntKind} {cl : List Value} {xs : List Int} (h : RepL (Rp.int k) I w cl xs) : cl = xs.map (Value.int k) := by
  induction xs generalizing cl with
  | nil => exact h
  | cons x xs ih =>
    obtain ⟨c, d, rfl, h1, h2⟩ := h
    have h1 : c = [.int k x] := h1
    rw [h1, ih h2]
    rfl
theorem src_bytes {A : Option Addr} {xs : List Int} {news : List Value} (hs : Src w A news) (rq : RepL (Rp.int .u8) I w news xs) : (A = none ∧ xs = []) ∨ ∃ a, A = some a ∧ ∀ j v, (xs.map (Value.int .u8))[j]? = some v → w.cell? (a.add j) = some v := by
  have h := repl_int rq
  subst h
  rcases hs with ⟨rfl, h0⟩ | ⟨a, rfl, hc⟩
  · exact .inl ⟨rfl, by simpa using h0⟩
  · exact .inr ⟨a, rfl, hc⟩
theorem Elems.bytes {A : Option Addr} {xs : List Int} (e : Elems (Rp.int .u8) I w A xs) : (C.bytes A xs.length (strOfNums xs)).holds w := by
  obtain ⟨news, h1, h2⟩ := e.src
  exact ⟨xs, rfl, rfl, src_bytes h1 h2⟩
theorem St.bytes (s : St w0 M I L w) {i c e size n : Nat} {A : Option Addr} {xs : List Int} {cl : List Value} (h : L[i]? = some (.sl (.slice A n c) e size n cl)) (hn : n = xs.length) (rp : RepL (Rp.int .u8) I w cl xs) : (C.bytes A n (strOfNums xs)).holds w :=
  ⟨xs, rfl, hn, src_bytes (St.src s h hn rp) rp⟩
/-- Bytes that are turned into a string: the types, the address, how many. -/
def strV (E : List Value) : Op → Option (Nat × Nat × Option Addr × Nat)
  | .convert s d x => match ev E x with
    | .slice A n _ => some (s, d, A, n)
    | _ => none
  | _ => none
theorem OK.str (hT : Tb.ok P T) {o : Oper} {K : Act → World → Prop} {sT dT eT n : Nat} {A : Option Addr} {xs : List Int} {news : List Value} (h : strV E o.op = some (sT, dT, A, n))
    (h1 : (T sT).known = true) (h2 : (T sT).td = .slice eT) (h3 : (T eT).known = true) (h4 : (T eT).td = .int .u8) (h5 : (T dT).known = true) (h6 : (T dT).td = .str)
    (hn : n = xs.length) (hs : Src w A news) (rq : RepL (Rp.int .u8) I w news xs) (hk : K (ac (putE E o.dst (.string (strOfNums xs))) ds) w) : opK rd P o K (ac E ds) w := by
  obtain ⟨dst, op, type, pos, after, guard⟩ := o
  simp only at h hk
  unfold strV at h
  split at h
  · rename_i s d x
    split at h
    · rename_i A' n' c hx
      cases h
      have e1 := (hT _ h1).td; rw [h2] at e1
      have e2 := (hT _ h3).td; rw [h4] at e2
      have e3 := (hT _ h5).td; rw [h6] at e3
      simp only [TD.ok] at e1 e2 e3
      have hnews := repl_int rq
      have run : (convert sT dT (.slice A n c)).run P w = .ok (.string (strOfNums xs)) w := by
        rcases hs with ⟨rfl, h0⟩ | ⟨a, rfl, hc⟩
        · have : xs = [] := by
            rw [h0] at hnews
            simpa using hnews.symm
          subst this
          exact run_convert_bytes_nil w sT eT e1 e2 n c dT e3
        · have hl : (loadCells a n).run P w = .ok (xs.map (Value.int .u8)).toArray w := by
            have := run_loadCells_list (P := P) w a (xs.map (Value.int .u8)) (fun j v hj => hc j v (by rw [hnews]; exact hj))
            simpa [hn] using this
          rw [run_convert_bytes_string w sT dT eT _ n c e1 e2 e3, run_bytesToString w _ n c xs hl, foldl_push_bytes]
          simp [strOfNums, ByteArray.empty, ByteArray.emptyWithCapacity]
          rfl
      refine opK_eff (by simp) ?_ hk
      simp [execOp, hx, run]
    · cases h
  · cases h
end Go.SX
