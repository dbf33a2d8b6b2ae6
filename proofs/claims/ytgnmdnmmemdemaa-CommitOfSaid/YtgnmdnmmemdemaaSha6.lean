/- gavellaw02.wakes; bytes.Compare; sha.Less. -/
import Derived.Test.YtgnmdnmmemdemaaSha5
import Derived.Lib.BytesEntry
import Derived.Laws.Externs
set_option maxRecDepth 100000
set_option linter.unusedVariables false
namespace Go.Proofs.Ytgnmdnmmemdemaa
open Go Go.RowKit Go.Gv

theorem sha_nil : shaF [] = [0xe3, 0xb0, 0xc4, 0x42, 0x98, 0xfc, 0x1c, 0x14, 0x9a, 0xfb, 0xf4, 0xc8, 0x99, 0x6f, 0xb9, 0x24, 0x27, 0xae, 0x41, 0xe4, 0x64, 0x9b, 0x93, 0x4c, 0xa4, 0x95, 0x99, 0x1b, 0x78, 0x52, 0xb8, 0x55] := by decide +kernel

/-- byte by byte -/
def cmpI : List Int → List Int → Int
  | [], [] => 0
  | [], _ :: _ => -1
  | _ :: _, [] => 1
  | x :: p, y :: q => if x < y then -1 else if y < x then 1 else cmpI p q
theorem cmpI_cons (x y : Int) (p q : List Int) : cmpI (x :: p) (y :: q) = if x < y then -1 else if y < x then 1 else cmpI p q := rfl
theorem cmpI_bytes : ∀ (a b : List Int), Bytes a → Bytes b → Lib.compareBytes (Lib.bytesOf a) (Lib.bytesOf b) = cmpI a b
  | [], [], _, _ => rfl
  | [], _ :: _, _, _ => rfl
  | _ :: _, [], _, _ => rfl
  | x :: a, y :: b, ha, hb => by
    have hx := ha x (by simp)
    have hy := hb y (by simp)
    have ih := cmpI_bytes a b (fun z hz => ha z (by simp [hz])) (fun z hz => hb z (by simp [hz]))
    have e : ∀ u v : Int, 0 ≤ u → u < 256 → 0 ≤ v → v < 256 → (UInt8.ofNat u.toNat < UInt8.ofNat v.toNat ↔ u < v) := by
      intro u v h1 h2 h3 h4
      rw [UInt8.lt_iff_toNat_lt]
      simp only [UInt8.toNat_ofNat']
      omega
    show (if UInt8.ofNat x.toNat < UInt8.ofNat y.toNat then (-1 : Int) else if UInt8.ofNat y.toNat < UInt8.ofNat x.toNat then 1 else Lib.compareBytes (Lib.bytesOf a) (Lib.bytesOf b)) = if x < y then -1 else if y < x then 1 else cmpI a b
    rw [ih]
    simp only [e x y hx.1 hx.2 hy.1 hy.2, e y x hy.1 hy.2 hx.1 hx.2]
theorem cmpI_self : ∀ a : List Int, cmpI a a = 0
  | [] => rfl
  | x :: a => by simp [cmpI, cmpI_self a]
theorem cmpI_swap : ∀ a b : List Int, cmpI b a = - cmpI a b
  | [], [] => rfl
  | [], _ :: _ => rfl
  | _ :: _, [] => rfl
  | x :: a, y :: b => by
    have ih := cmpI_swap a b
    unfold cmpI
    by_cases h : x < y
    · simp [h, show ¬ y < x by omega]
    · by_cases h2 : y < x
      · simp [h, h2]
      · simp [h, h2, ih]
theorem cmpI_zero : ∀ a b : List Int, cmpI a b = 0 → a = b
  | [], [], _ => rfl
  | [], _ :: _, h => by simp [cmpI] at h
  | _ :: _, [], h => by simp [cmpI] at h
  | x :: a, y :: b, h => by
    unfold cmpI at h
    by_cases h1 : x < y
    · simp [h1] at h
    · by_cases h2 : y < x
      · simp [h1, h2] at h
      · simp only [h1, h2, if_false] at h
        rw [cmpI_zero a b h, show x = y by omega]
theorem cmpI_trans : ∀ a b c : List Int, cmpI a b < 0 → cmpI b c < 0 → cmpI a c < 0
  | [], [], _, h, _ => by simp [cmpI] at h
  | [], _ :: _, [], _, h => by simp [cmpI] at h
  | [], _ :: _, _ :: _, _, _ => by simp [cmpI]
  | _ :: _, [], _, h, _ => by simp [cmpI] at h
  | _ :: _, _ :: _, [], _, h => by simp [cmpI] at h
  | x :: a, y :: b, z :: c, h1, h2 => by
    have ih := cmpI_trans a b c
    rw [cmpI_cons] at h1 h2 ⊢
    by_cases q1 : x < y <;> by_cases q2 : y < x <;> by_cases q3 : y < z <;> by_cases q4 : z < y <;> simp only [q1, q2, q3, q4, if_true, if_false] at h1 h2 ⊢ <;> first
      | omega
      | (rw [if_pos (by omega)]; omega)
      | (rw [if_neg (by omega), if_neg (by omega)]; exact ih h1 h2)
theorem cmpI_at : ∀ (i : Nat) (a b : List Int), a.take i = b.take i → i < a.length → i < b.length → a.getD i 0 ≠ b.getD i 0 → (cmpI a b < 0 ↔ a.getD i 0 < b.getD i 0)
  | _, [], _, _, h, _, _ => by simp at h
  | _, _ :: _, [], _, _, h, _ => by simp at h
  | 0, x :: a, y :: b, _, _, _, hne => by
    simp only [List.getD_cons_zero] at hne ⊢
    unfold cmpI
    by_cases h : x < y
    · simp [h]
    · have : y < x := by omega
      simp [h, this]
  | i + 1, x :: a, y :: b, ht, ha, hb, hne => by
    simp only [List.take_succ_cons, List.cons.injEq] at ht
    simp only [List.getD_cons_succ] at hne ⊢
    have ih := cmpI_at i a b ht.2 (by simpa using ha) (by simpa using hb) hne
    rw [← ih, ht.1, cmpI_cons, if_neg (by omega), if_neg (by omega)]

theorem run_bytesOf {P : Program} {w : World} {v : Value} {bs : List Int} (h : RdB w v bs) : (Extern.Bytes.bytesOf v).run P w = .ok ⟨(Lib.bytesOf bs).toArray⟩ w := by
  rcases h.form with ⟨rfl, ao, cap, rfl, _⟩ | ⟨g, o, cap, _, rfl, _, _, hc⟩
  · cases ao with
    | none => simp [Extern.Bytes.bytesOf, Lib.bytesOf]; rfl
    | some a => simp [Extern.Bytes.bytesOf, Extern.Bytes.loadBytes, Lib.bytesOf]; rfl
  · have hl := Lib.run_loadBytesX (P := P) w bs ⟨g, o, none⟩ .empty (fun j x hj => by
      have hjl : j < bs.length := (List.getElem?_eq_some_iff.1 hj).1
      rw [add_mk, hc j hjl]
      rw [List.getElem?_eq_getElem hjl] at hj
      rw [Option.some.inj hj])
    have he : (⟨ByteArray.empty.data ++ (Lib.bytesOf bs).toArray⟩ : ByteArray) = ⟨(Lib.bytesOf bs).toArray⟩ := by
      apply ByteArray.ext
      show (#[] : Array UInt8) ++ (Lib.bytesOf bs).toArray = (Lib.bytesOf bs).toArray
      simp
    rw [he] at hl
    simpa [Extern.Bytes.bytesOf] using hl
theorem run_compareB {P : Program} {w : World} {va vb : Value} {a b : List Int} (ha : RdB w va a) (hb : RdB w vb b) : (Extern.BytealgCompare.compare #[va, vb]).run P w = .ok (.int .i64 (cmpI a b)) w := by
  change Sem.run P (do pure (goInt (Extern.BytealgCompare.cmp (← Extern.Bytes.bytesOf va) (← Extern.Bytes.bytesOf vb)))) w = _
  simp only [Sem.run_bind, Sem.run_pure, run_bytesOf ha, run_bytesOf hb, Result.andThen_ok]
  rw [Lib.cmp_eq]
  simp only [cmpI_bytes a b ha.1 hb.1]
  rfl

theorem wpList_callX {P : Program} {ops : Array Oper} {rest : List Oper} {o : Oper} {a : Act} {w : World} {Q : Exit → Act → World → Prop} (hgd : o.guard = none) {F : FuncId} {xs : Array Operand} {ts : Array TypeId}
    (ho : o.op = .call { callee := .value (.func F), args := xs, argTypes := ts }) {fn : Func} {e : Array Value → Sem Value} (hf : P.funcs[F]? = some fn) (hname : (fn.name == "runtime.NumGoroutine") = false)
    (hb : fn.body.isNone = true) (hn : Extern.findNext fn = none) (he : Extern.find fn = some e) {v : Value} {args : Array Value} (ha : xs.map a.eval = args) (hr : (e args).run P w = .ok v w) (h : wpList P ops Q rest (a.put o.dst v) w) : wpList P ops Q (o :: rest) a w := by
  refine wpList_plain hgd fun K hK => ?_
  subst ha
  have hx := run_callFunc_extern (P := P) hf hname hb hn he (xs.map a.eval) w
  rw [hr] at hx
  unfold Oper.wp execOp
  simp only [ho, resolve, invoke, Act.eval, Deferred.ofValue, Sem.run_bind, Sem.run_pure, Result.andThen_ok]
  have e1 : ((#[] : Array Value) ++ xs.map a.eval) ++ (#[] : Array Value) = xs.map a.eval := by simp
  have e2 : ((#[] : Array Value) ++ xs.map a.eval) = xs.map a.eval := by simp
  have e3 : (xs.map a.eval) ++ (#[] : Array Value) = xs.map a.eval := by simp
  first
    | (rw [hx]; exact hK _ _ h)
    | (rw [e1, hx]; exact hK _ _ h)
    | (rw [e2, hx]; exact hK _ _ h)
    | (rw [e3, hx]; exact hK _ _ h)

theorem RdB_arr {w : World} {g : Nat} {a : List Int} {T : TypeId} (hc : Cs w g (a.map bv).toArray T) (hl : a.length = 32) (hb : Bytes a) : RdB w (.slice (some ⟨g, 0, none⟩) 32 32) a := by
  refine ⟨hb, ?_⟩
  rw [hl]
  exact Rd.mk (Nat.le_refl _) (by rw [maxLen_val]; omega) (by simp [hl]) fun j u hu => by rw [Nat.zero_add, hc.cell]; simpa using hu
end Go.Proofs.Ytgnmdnmmemdemaa
