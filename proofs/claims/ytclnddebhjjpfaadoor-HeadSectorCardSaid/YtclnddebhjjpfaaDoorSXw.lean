/- SX, part w: calls of functions without text, which the model answers by a row of its own. -/
import Derived.Test.YtclnddebhjjpfaaDoorSXv
import Derived.Laws.Externs
import Derived.Lib.BytesEntry
namespace Go.SX
open Go Go.RowKit
variable {rd : Option Nat} {P : Program} {E : List Value} {ds : List Deferred} {w : World}

theorem callee_val {o : Oper} {f : Nat} {args : List Value} {v : Value} {w' : World} (he : (callFunc f args.toArray).run P w = .ok (.value v) w') (h : calleeV E o.op = some (f, args)) : (execOp (ev E) o).run P w = .ok (.value v) w' ∧ ∀ c, o.op ≠ .defer c := by
  obtain ⟨dst, op, type, pos, after, guard⟩ := o
  unfold calleeV at h
  split at h
  · rename_i x xs ts hop
    simp only at hop
    subst hop
    split at h
    · rename_i g fi ca hv
      cases h
      refine ⟨?_, fun c => by simp⟩
      have h2 : (fi.toList ++ List.map (ev E) xs.toList ++ ca.toList).toArray = fi ++ Array.map (ev E) xs ++ ca := Array.ext' (by simp)
      rw [h2] at he
      simp [execOp, resolve, hv, Deferred.ofValue, invoke]
      simpa using he
    · cases h
  · cases h
/-- A call that the model answers at once. -/
theorem OK.ext {o : Oper} {f : Nat} {args : List Value} {v : Value} {w' : World} {K : Act → World → Prop} (he : (callFunc f args.toArray).run P w = .ok (.value v) w') (h : calleeV E o.op = some (f, args)) (hk : K (ac (putE E o.dst v) ds) w') : opK rd P o K (ac E ds) w := by
  obtain ⟨h1, h2⟩ := callee_val he h
  unfold opK
  rw [Oper.semAt_eq _ _ _ h2, ac_eval, h1, Oper.uponIn_value, ac_put]
  exact hk
theorem told_bytes {I : Nat → Prop} {A : Option Addr} {xs : List Int} {c : Nat} (e : Elems (Rp.int .u8) I w A xs) : (Extern.Bytes.bytesOf (.slice A xs.length c)).run P w = .ok ⟨(Lib.bytesOf xs).toArray⟩ w := by
  rcases xs with _ | ⟨x, xs⟩
  · cases A with
    | none => rfl
    | some a => rfl
  · obtain ⟨b, o, rfl, hb, hc⟩ := e (by simp)
    have := Lib.run_loadBytesX (P := P) (w := w) (x :: xs) ⟨b, o, none⟩ ByteArray.empty (fun j y hy => by
      obtain ⟨cs, h1, h2⟩ := hc j y hy
      have h1' : cs = [.int .u8 y] := h1
      subst h1'
      have := h2 0 _ rfl
      have h3 : (⟨b, o, none⟩ : Addr).add j = ⟨b, o + j * (Rp.int .u8).n + 0, none⟩ := by
        have h4 : (Rp.int .u8).n = 1 := rfl
        rw [h4, Nat.mul_one, Nat.add_zero]
        unfold Addr.add
        split
        · rename_i h0; subst h0; rfl
        · rfl
      rw [h3]
      exact this)
    rw [show ByteArray.empty.data = #[] from rfl, Array.empty_append] at this
    exact this
/-- Which one comes first: less than 0, 0, more than 0. -/
def cmpB (xs ys : List Int) : Int := Extern.BytealgCompare.cmp ⟨(Lib.bytesOf xs).toArray⟩ ⟨(Lib.bytesOf ys).toArray⟩
theorem OK.compare {f : Nat} {fn : Func} {o : Oper} {I J : Nat → Prop} {A B : Option Addr} {xs ys : List Int} {n m c d : Nat} {K : Act → World → Prop} (hf : P.funcs[f]? = some fn) (hname : (fn.name == "runtime.NumGoroutine") = false)
    (hb : fn.body.isNone = true) (hn : Extern.findNext fn = none) (he : Extern.find fn = some Extern.BytealgCompare.compare) (h1 : n = xs.length) (e1 : Elems (Rp.int .u8) I w A xs) (h2 : m = ys.length) (e2 : Elems (Rp.int .u8) J w B ys)
    (h : calleeV E o.op = some (f, [.slice A n c, .slice B m d])) (hk : K (ac (putE E o.dst (.int .i64 (cmpB xs ys))) ds) w) : opK rd P o K (ac E ds) w := by
  subst h1 h2
  refine OK.ext (v := .int .i64 (cmpB xs ys)) ?_ h hk
  rw [run_callFunc_extern hf hname hb hn he]
  have q1 := told_bytes (P := P) (c := c) e1
  have q2 := told_bytes (P := P) (c := d) e2
  have h3 : Extern.BytealgCompare.compare [Value.slice A xs.length c, Value.slice B ys.length d].toArray = (do let a ← Extern.Bytes.bytesOf (.slice A xs.length c); let b ← Extern.Bytes.bytesOf (.slice B ys.length d); Pure.pure (goInt (Extern.BytealgCompare.cmp a b))) := rfl
  rw [h3, Sem.run_bind, q1]
  simp only [Result.andThen]
  rw [Sem.run_bind, q2]
  rfl
end Go.SX
