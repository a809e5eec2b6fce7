/- SX, part v: a part of a new slice that is told as a result: with the whole slice, which the caller gives away at once. -/
import Derived.Test.YtclnddebhjjpfaaDoorSXs
namespace Go.SX
open Go Go.RowKit
variable {w : World} {I : Nat → Prop}

/-- The slice at A is a part of the slice at B. -/
structure Win {τ : Type} (r : Rp τ) (B : Option Addr) (ys : List τ) (A : Option Addr) (n c : Nat) (xs : List τ) : Prop where
  len : n = xs.length
  cap : xs.length ≤ c ∧ c ≤ 9223372036854775807
  told : ∀ (I : Nat → Prop) (w : World), Elems r I w B ys → Elems r I w A xs
theorem Win.part {τ : Type} {r : Rp τ} {xs ys : List τ} {b c o m d size n : Nat} {l h : Int} (hs : size = r.n) (hc : xs.length ≤ c ∧ c ≤ 9223372036854775807) (p : Pt o m d size l h n) (hd : d ≤ c) (g : cutI xs l h = some ys) : Win r (some ⟨b, 0, none⟩) xs (some ⟨b, o, none⟩) m d ys := by
  obtain ⟨g0, g4, g5⟩ := cutS g
  have q1 := p.len
  have q2 := p.cap
  have hm : m = ys.length := by omega
  exact ⟨hm, ⟨by omega, by omega⟩, fun I w e => (Elems.part hs e hc p hd g).2.2⟩
theorem Win.whole {τ : Type} {r : Rp τ} {xs : List τ} {A : Option Addr} {n c e size : Nat} {cl : List Value} (hn : n = xs.length) (h : (It.sl (.slice A n c) e size n cl).holds w) : Win r A xs A n c xs := by
  subst hn
  exact ⟨rfl, row_hc h, fun _ _ h => h⟩
theorem Win.real {τ : Type} {r : Rp τ} {B A : Option Addr} {ys xs : List τ} {n c : Nat} (h : Win r B ys A n c xs) (e : Elems r I w B ys) : n = xs.length ∧ (xs.length ≤ c ∧ c ≤ 9223372036854775807) ∧ Elems r I w A xs := ⟨h.len, h.cap, h.told I w e⟩
/-- A continuation, not opened at once. -/
def Kn (K : Kont) : Kont := K
/-- One operation that leaves the world alone, its value told otherwise. -/
theorem OK.told {rd : Option Nat} {P : Program} {T : Tb} {E : List Value} {ds : List Deferred} (hT : Tb.ok P T) {o : Oper} {ld v' : Value} {c' : C} {K : Act → World → Prop} (ov : List (Nat × Value)) (h : (stepOp T E o.op ld).map (fun p => over o.dst p.1 p.2 ov) = some (v', c')) (hc : c'.holds w) (hk : K (ac (putE E o.dst v') ds) w) : opK rd P o K (ac E ds) w := by
  obtain ⟨⟨v, c⟩, h1, h2⟩ := Option.map_eq_some_iff.1 h
  obtain ⟨h3, h4⟩ := over_ok h2 hc
  subst h3
  exact opK_step hT h1 h4 hk
theorem Any.strong {rd : Option Nat} {P : Program} {ops : Array Oper} {K : Act → World → Prop} {S S' : World → Prop} {m : Nat} (hS : ∀ w, S' w → S w) : ∀ (fuel : Nat) (listed : Array Bool) (a : Act) (w : World), Any rd P ops K S' m fuel listed a w → Any rd P ops K S m fuel listed a w
  | 0, _, _, _, h => h
  | fuel + 1, _, _, _, h => ⟨h.1, fun i hi => opI_mono (fun _ _ h' => ⟨fun hm => hS _ (h'.1 hm), Any.strong hS fuel _ _ _ h'.2⟩) (h.2 i hi)⟩
/-- From here on more is asked of the world. -/
theorem RD.strong {rd : Option Nat} {P : Program} {ops : List Oper} {K : Kont} {S : World → Prop} {m : Nat} {listed : List Bool} {E : List Value} {ds : List Deferred} (S' : World → Prop) (hS : ∀ w, S' w → S w) (h : RD rd P ops K S' m listed E ds w) : RD rd P ops K S m listed E ds w := Any.strong hS _ _ _ _ h
theorem setL_all {vs cs : List Value} (h : vs.length = cs.length) : setL cs 0 vs = vs := by
  rw [← setL_eq vs cs 0 (by omega), List.take_zero, List.nil_append, List.drop_eq_nil_of_le (by omega), List.append_nil]
end Go.SX
