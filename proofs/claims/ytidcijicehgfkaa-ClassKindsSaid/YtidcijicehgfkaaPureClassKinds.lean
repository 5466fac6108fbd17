/-
  What a row of words can be folded as is told alike by the program's class.Kind and by the document's answer, for every row; the row stays as it was, and the small known run ends true.
  Conditions: none beside the bounds that the printed statement has (each word a uint32, the row no longer than memory allows).
-/
import Derived.Test.YtidcijicehgfkaaPKx
namespace Go.Proofs.Ytidcijicehgfkaa.Pure
open Go.RowKit Go.Proofs.Ytidcijicehgfkaa.PK Go.Proofs.YtidcijicehgfkaaW.PrintWords Go.Proofs.YtidcijicehgfkaaW.PrintLast
set_option linter.unusedVariables false
theorem stays {α : Type} {g : Nat → Option α} (hm : ∀ k, LeO (g k) (g (k + 1))) {c : Nat} {v : α} (h : g c = some v) : ∀ k, c ≤ k → g k = some v := by
  intro k hk
  induction k with
  | zero => rw [show c = 0 by omega] at h; exact h
  | succ k ih =>
    by_cases e : c = k + 1
    · rw [← e]; exact h
    · exact hm k v (ih (by omega))
theorem wraps_u32 (n : Int) (h0 : 0 ≤ n) (h1 : n < 2 ^ 32) : IntKind.u32.wrap n = n := by rw [IntKind.wrap_u32]; omega
theorem and15 (x : Int) (h0 : 0 ≤ x) (h1 : x < 4294967296) : Go.bits .and .u32 x 15 = x % 16 := bits_mask .u32 32 (by decide) wraps_u32 4 (by decide) x h0 h1
theorem and32767 (x : Int) (h0 : 0 ≤ x) (h1 : x < 4294967296) : Go.bits .and .u32 x 32767 = x % 32768 := bits_mask .u32 32 (by decide) wraps_u32 15 (by decide) x h0 h1
theorem or_u32 (i : Nat) (x y : Int) (a : 0 ≤ x) (b : x % 2 ^ i = 0) (c : x < 4294967296) (d : 0 ≤ y) (e : y < 2 ^ i) (f : y < 4294967296) : Go.bits .or .u32 x y = x + y := bits_join .u32 32 (by decide) wraps_u32 i x y a b c d e f
theorem wrap_i8 (x : Int) (h0 : 0 ≤ x) (h1 : x < 128) : IntKind.i8.wrap x = x := by
  simp [IntKind.wrap, IntKind.bits, IntKind.signed]
  omega
theorem word_is (o d a b m n w : Int) (h0 : 0 ≤ w) (h1 : w < 4294967296) (ho : o = w / 134217728) (hd : d = w / 8388608 % 16) (ha : a = w / 524288 % 16) (hb : b = w / 32768 % 16) (hn : n = w % 32768) (hm : m = n ∨ m = n - 32768) : isa_Encode.word o d a b m = w := by
  unfold isa_Encode.word
  have e : m % 4294967296 % 32768 = n := by omega
  rw [and32767 _ (by omega) (by omega), e]
  rw [or_u32 27 (o * 134217728) (d * 8388608) (by omega) (by omega) (by omega) (by omega) (by omega) (by omega)]
  rw [or_u32 23 _ (a * 524288) (by omega) (by omega) (by omega) (by omega) (by omega) (by omega)]
  rw [or_u32 19 _ (b * 32768) (by omega) (by omega) (by omega) (by omega) (by omega) (by omega)]
  rw [or_u32 15 _ n (by omega) (by omega) (by omega) (by omega) (by omega) (by omega)]
  omega
/-- what an op's number has: d, a, b, n, place -/
def fl (o : Int) : Bool × Bool × Bool × Bool × Bool := (pleatref02_Has.f 4 o).getD (false, false, false, false, false)
theorem fin_all {p : Int → Prop} (h : ∀ i : Fin 33, p ((i.val : Int) - 1)) (o : Int) (h0 : -1 ≤ o) (h1 : o < 32) : p o := by
  have := h ⟨(o + 1).toNat, by omega⟩
  have e : (((o + 1).toNat : Nat) : Int) - 1 = o := by omega
  rw [← e]
  exact this
theorem has_ref (o : Int) (h0 : -1 ≤ o) (h1 : o < 32) : pleatref02_Has.f 4 o = some (fl o) := by
  revert o
  intro o h0 h1
  exact fin_all (p := fun o => pleatref02_Has.f 4 o = some (fl o)) (by decide +kernel) o h0 h1
theorem has_isa (o : Int) (h0 : -1 ≤ o) (h1 : o < 32) : ∃ F, isa_has.f o = some F ∧ (0 ≤ o → o < 22 → F = rd isa_fields.tab o) ∧ fl o = (Go.bits .and .i64 F 1 != 0, Go.bits .and .i64 F 2 != 0, Go.bits .and .i64 F 4 != 0, Go.bits .and .i64 F 8 != 0, Go.bits .and .i64 F 16 != 0) ∧ ((fl o).2.2.2.2 = true → (fl o).2.2.2.1 = true) := by
  have := fin_all (p := fun o => ((isa_has.f o).isSome = true ∧ (0 ≤ o → o < 22 → (isa_has.f o).getD 0 = rd isa_fields.tab o) ∧ fl o = (Go.bits .and .i64 ((isa_has.f o).getD 0) 1 != 0, Go.bits .and .i64 ((isa_has.f o).getD 0) 2 != 0, Go.bits .and .i64 ((isa_has.f o).getD 0) 4 != 0, Go.bits .and .i64 ((isa_has.f o).getD 0) 8 != 0, Go.bits .and .i64 ((isa_has.f o).getD 0) 16 != 0) ∧ ((fl o).2.2.2.2 = true → (fl o).2.2.2.1 = true))) (by decide +kernel) o h0 h1
  obtain ⟨a, b, c, d⟩ := this
  obtain ⟨F, hF⟩ := Option.isSome_iff_exists.1 a
  rw [hF] at b c
  exact ⟨F, hF, b, c, d⟩
def okB (f : Bool × Bool × Bool × Bool × Bool) (d a b m : Int) : Bool := (f.1 || d == 0) && ((f.2.1 || a == 0) && ((f.2.2.1 || b == 0) && (if f.2.2.2.1 = true then (if f.2.2.2.2 = true then decide (0 ≤ m) && decide (m < 16384) else decide (-16384 ≤ m) && decide (m ≤ 16383)) else m == 0)))
theorem g_is (F o d a b m : Int) (hp : (Go.bits .and .i64 F 16 != 0) = true → (Go.bits .and .i64 F 8 != 0) = true) (d0 : 0 ≤ d) (d1 : d < 16) (a0 : 0 ≤ a) (a1 : a < 16) (b0 : 0 ≤ b) (b1 : b < 16) :
    isa_Encode.g F o d a b m = if okB (Go.bits .and .i64 F 1 != 0, Go.bits .and .i64 F 2 != 0, Go.bits .and .i64 F 4 != 0, Go.bits .and .i64 F 8 != 0, Go.bits .and .i64 F 16 != 0) d a b m = true then (isa_Encode.word o d a b m, 0) else (0, 11) := by
  unfold isa_Encode.g
  generalize isa_Encode.word o d a b m = W
  unfold isa_Encode.bad isa_Encode.lo isa_Encode.hi okB
  have e1 : decide (d < 0) = false := decide_eq_false (by omega)
  have e2 : decide (16 ≤ d) = false := decide_eq_false (by omega)
  have e3 : decide (a < 0) = false := decide_eq_false (by omega)
  have e4 : decide (16 ≤ a) = false := decide_eq_false (by omega)
  have e5 : decide (b < 0) = false := decide_eq_false (by omega)
  have e6 : decide (16 ≤ b) = false := decide_eq_false (by omega)
  simp only [bne] at hp
  cases hx5 : (Go.bits .and .i64 F 16 == 0) <;> cases hx4 : (Go.bits .and .i64 F 8 == 0) <;> simp only [hx5, hx4] at hp <;> try (exact absurd (hp rfl) (by decide))
  all_goals
    cases hx1 : (Go.bits .and .i64 F 1 == 0) <;> cases hx2 : (Go.bits .and .i64 F 2 == 0) <;> cases hx3 : (Go.bits .and .i64 F 4 == 0) <;> simp only [e1, e2, e3, e4, e5, e6, bne, hx1, hx2, hx3, hx4, hx5] <;> simp
    all_goals (repeat' split) <;> first | rfl | (exfalso; omega) | (simp_all; done) | (simp_all; omega)
def sel (f : Bool × Bool × Bool × Bool × Bool) (n : Int) : Int := if (f.2.2.2.1 && !f.2.2.2.2 && decide (n ≥ 16384)) = true then n - 32768 else n
theorem sel_or (f) (n : Int) : sel f n = n ∨ sel f n = n - 32768 := by unfold sel; split <;> simp
def dec (w : Int) : Int × Int × Int × Int × Int :=
  if w / 134217728 < 22 ∧ okB (fl (w / 134217728)) (w / 8388608 % 16) (w / 524288 % 16) (w / 32768 % 16) (sel (fl (w / 134217728)) (w % 32768)) = true
  then (w / 134217728, w / 8388608 % 16, w / 524288 % 16, w / 32768 % 16, sel (fl (w / 134217728)) (w % 32768)) else (-1, 0, 0, 0, w)
theorem isa_j0 (k : Nat) (w : Int) (x : Bool) (o d a b n : Int) (hw : wrap64 w = w) (hn : wrap64 (n - 32768) = n - 32768) (E : Int) (e : Int) (h : isa_Encode.f o d a b (if x = true then n - 32768 else n) = some (E, e)) :
    isa_Decode.j0 (k + 1) w x o d a b n = some (if e = 0 ∧ E = w then (o, d, a, b, if x = true then n - 32768 else n) else (-1, 0, 0, 0, w)) := by
  rw [isa_Decode.j0]
  cases x
  · simp only [if_false, Bool.false_eq_true] at h ⊢
    rw [h]
    simp only [Option.bind_some, hw]
    by_cases c : e = 0 <;> by_cases c2 : E = w <;> simp [c, c2]
  · simp only [if_true, hn] at h ⊢
    rw [h]
    simp only [Option.bind_some, hw]
    by_cases c : e = 0 <;> by_cases c2 : E = w <;> simp [c, c2]
theorem dec_isa (w : Int) (h0 : 0 ≤ w) (h1 : w < 4294967296) : isa_Decode.f 1 w = some (dec w) := by
  obtain ⟨o, ho⟩ : ∃ o, o = w / 134217728 := ⟨_, rfl⟩
  obtain ⟨d, hd⟩ : ∃ d, d = w / 8388608 % 16 := ⟨_, rfl⟩
  obtain ⟨a, ha⟩ : ∃ a, a = w / 524288 % 16 := ⟨_, rfl⟩
  obtain ⟨b, hb⟩ : ∃ b, b = w / 32768 % 16 := ⟨_, rfl⟩
  obtain ⟨n, hn⟩ : ∃ n, n = w % 32768 := ⟨_, rfl⟩
  obtain ⟨F, hF, hF2, hfl, hpn⟩ := has_isa o (by omega) (by omega)
  have w0 : wrap64 w = w := by unfold wrap64; omega
  have w1 : wrap64 n = n := by unfold wrap64; omega
  have w2 : wrap64 (n - 32768) = n - 32768 := by unfold wrap64; omega
  unfold isa_Decode.f dec
  rw [and15 _ (by omega) (by omega), and15 _ (by omega) (by omega), and15 _ (by omega) (by omega), and32767 _ (by omega) (by omega)]
  rw [← ho, ← hd, ← ha, ← hb, ← hn, wrap_i8 o (by omega) (by omega), wrap_i8 d (by omega) (by omega), wrap_i8 a (by omega) (by omega), wrap_i8 b (by omega) (by omega), w1, hF]
  simp only [Option.bind_some]
  have key : ∀ x : Bool, x = ((fl o).2.2.2.1 && !(fl o).2.2.2.2 && decide (n ≥ 16384)) → isa_Decode.j0 1 w x o d a b n = some (if o < 22 ∧ okB (fl o) d a b (sel (fl o) n) = true then (o, d, a, b, sel (fl o) n) else (-1, 0, 0, 0, w)) := by
    intro x hx
    have hs : (if x = true then n - 32768 else n) = sel (fl o) n := by unfold sel; rw [hx]
    by_cases c : o < 22
    · have hE : isa_Encode.f o d a b (sel (fl o) n) = some (if okB (fl o) d a b (sel (fl o) n) = true then (w, 0) else (0, 11)) := by
        unfold isa_Encode.f
        rw [if_neg (by omega), if_neg (by omega), ← hF2 (by omega) c, g_is F o d a b _ (by have := hpn; rw [hfl] at this; exact this) (by omega) (by omega) (by omega) (by omega) (by omega) (by omega), ← hfl, word_is o d a b _ n w h0 h1 ho hd ha hb hn (sel_or _ _)]
      by_cases ck : okB (fl o) d a b (sel (fl o) n) = true
      · rw [if_pos ck] at hE
        rw [isa_j0 0 w x o d a b n w0 w2 w 0 (by rw [hs]; exact hE), hs, if_pos ⟨rfl, rfl⟩, if_pos ⟨c, ck⟩]
      · rw [if_neg ck] at hE
        rw [isa_j0 0 w x o d a b n w0 w2 0 11 (by rw [hs]; exact hE), if_neg (by simp), if_neg (by simp [ck])]
    · have hE : isa_Encode.f o d a b (sel (fl o) n) = some (0, 10) := by
        unfold isa_Encode.f
        rw [if_neg (by omega), if_pos (by omega)]
      rw [isa_j0 0 w x o d a b n w0 w2 0 10 (by rw [hs]; exact hE), if_neg (by simp), if_neg (by simp [c])]
  rw [hfl] at key ⊢
  simp only [] at key ⊢
  by_cases c8 : Go.bits .and .i64 F 8 = 0
  · rw [if_pos c8]; exact key false (by simp [c8])
  · rw [if_neg c8]
    by_cases c16 : Go.bits .and .i64 F 16 = 0
    · rw [if_pos c16]; exact key _ (by simp [c8, c16])
    · rw [if_neg c16]; exact key false (by simp [c16])
theorem num_is (f : Bool × Bool × Bool × Bool × Bool) (m : Int) : pleatref02_number.f f.1 f.2.1 f.2.2.1 f.2.2.2.1 f.2.2.2.2 m = some (if f.2.2.2.1 = true then (if f.2.2.2.2 = true then decide (0 ≤ m) && decide (m < 16384) else decide (-16384 ≤ m) && decide (m ≤ 16383)) else m == 0) := by
  unfold pleatref02_number.f
  split
  · split
    · split
      · next h => simp [show 0 ≤ m from h]
      · next h => simp [show ¬ 0 ≤ m by omega]
    · split
      · next h => simp [show -16384 ≤ m from h]
      · next h => simp [show ¬ -16384 ≤ m by omega]
  · rfl
theorem reg_is (h : Bool) (r : Int) (h0 : 0 ≤ r) (h1 : r < 16) : pleatref02_register.f h r = some (h || r == 0) := by
  unfold pleatref02_register.f
  cases h
  · simp
  · simp [h0, h1]
theorem ref_word (o d a b m n w : Int) (h0 : 0 ≤ w) (h1 : w < 4294967296) (ho : o = w / 134217728) (hd : d = w / 8388608 % 16) (ha : a = w / 524288 % 16) (hb : b = w / 32768 % 16) (hn : n = w % 32768) (hm : m = n) :
    (((((((((((((((((o) % 4294967296) * 16) % 4294967296) + ((d) % 4294967296)) % 4294967296) * 16) % 4294967296) + ((a) % 4294967296)) % 4294967296) * 16) % 4294967296) + ((b) % 4294967296)) % 4294967296) * 32768) % 4294967296) + (m % 4294967296)) % 4294967296 = w := by
  subst hm
  have e1 : o % 4294967296 = o := by omega
  have e2 : d % 4294967296 = d := by omega
  have e3 : a % 4294967296 = a := by omega
  have e4 : b % 4294967296 = b := by omega
  have e5 : m % 4294967296 = m := by omega
  rw [e1, e2, e3, e4, e5]
  have f1 : o * 16 % 4294967296 = o * 16 := by omega
  rw [f1]
  have f2 : (o * 16 + d) % 4294967296 = o * 16 + d := by omega
  rw [f2]
  have f3 : (o * 16 + d) * 16 % 4294967296 = (o * 16 + d) * 16 := by omega
  rw [f3]
  have f4 : ((o * 16 + d) * 16 + a) % 4294967296 = (o * 16 + d) * 16 + a := by omega
  rw [f4]
  have f5 : ((o * 16 + d) * 16 + a) * 16 % 4294967296 = ((o * 16 + d) * 16 + a) * 16 := by omega
  rw [f5]
  have f6 : (((o * 16 + d) * 16 + a) * 16 + b) % 4294967296 = ((o * 16 + d) * 16 + a) * 16 + b := by omega
  rw [f6]
  omega
theorem has_ref' (k : Nat) (hk : 4 ≤ k) (o : Int) (h0 : -1 ≤ o) (h1 : o < 32) : pleatref02_Has.f k o = some (fl o) := stays (pleatref02_Has.mono o) (has_ref o h0 h1) k hk
theorem enc_ref (k : Nat) (hk : 6 ≤ k) (o d a b m n w : Int) (h0 : 0 ≤ w) (h1 : w < 4294967296) (ho : o = w / 134217728) (hd : d = w / 8388608 % 16) (ha : a = w / 524288 % 16) (hb : b = w / 32768 % 16) (hn : n = w % 32768) (hm : m = n ∨ m = n - 32768) (hm0 : m = n ∨ m < 0) (hl : o < 22) :
    pleatref02_Encode.f k o d a b m = some (if okB (fl o) d a b m = true then (w, 0) else (0, 11)) := by
  obtain ⟨k, rfl⟩ : ∃ j, k = j + 2 := ⟨k - 2, by omega⟩
  rw [pleatref02_Encode.f, if_neg (by omega), pleatref02_Encode.j0, if_neg (by simp; omega), has_ref' _ (by omega) o (by omega) (by omega)]
  simp only [Option.bind_some]
  rw [reg_is _ d (by omega) (by omega), reg_is _ a (by omega) (by omega), reg_is _ b (by omega) (by omega)]
  simp only [Option.bind_some]
  have J : ∀ x : Bool, pleatref02_Encode.j1 (k + 1) x o d a b m = some (if x = true then (0, 11) else (w, 0)) := by
    intro x
    rw [pleatref02_Encode.j1]
    cases x
    · simp only [Bool.false_eq_true, if_false]
      by_cases c : m < 0
      · rw [if_pos c, show wrap64 (m + 32768) = n by unfold wrap64; omega, ref_word o d a b n n w h0 h1 ho hd ha hb hn rfl]
      · rw [if_neg c, ref_word o d a b m n w h0 h1 ho hd ha hb hn (by omega)]
    · rfl
  unfold okB
  rw [num_is]
  obtain ⟨N, hN⟩ : ∃ N : Bool, N = (if (fl o).2.2.2.1 = true then (if (fl o).2.2.2.2 = true then decide (0 ≤ m) && decide (m < 16384) else decide (-16384 ≤ m) && decide (m ≤ 16383)) else m == 0) := ⟨_, rfl⟩
  rw [← hN]
  clear hN
  simp only [Option.bind_some, J]
  cases (fl o).1 || d == 0 <;> cases (fl o).2.1 || a == 0 <;> cases (fl o).2.2.1 || b == 0 <;> cases N <;> simp
theorem ref_j0 (k : Nat) (w : Int) (x : Bool) (o d a b n : Int) (hw : wrap64 w = w) (hn : wrap64 (n - 32768) = n - 32768) (E : Int) (e : Int) (h : pleatref02_Encode.f k o d a b (if x = true then n - 32768 else n) = some (E, e)) :
    pleatref02_Decode.j0 (k + 1) w x o d a b n = some (if e = 0 ∧ E = w then (o, d, a, b, if x = true then n - 32768 else n) else (-1, 0, 0, 0, w)) := by
  rw [pleatref02_Decode.j0]
  cases x
  · simp only [if_false, Bool.false_eq_true] at h ⊢
    rw [h]
    simp only [Option.bind_some, hw]
    by_cases c : e = 0 <;> by_cases c2 : E = w <;> simp [c, c2]
  · simp only [if_true, hn] at h ⊢
    rw [h]
    simp only [Option.bind_some, hw]
    by_cases c : e = 0 <;> by_cases c2 : E = w <;> simp [c, c2]
theorem dec_ref (k : Nat) (hk : 7 ≤ k) (w : Int) (h0 : 0 ≤ w) (h1 : w < 4294967296) : pleatref02_Decode.f k w = some (dec w) := by
  obtain ⟨k, rfl⟩ : ∃ j, k = j + 1 := ⟨k - 1, by omega⟩
  obtain ⟨o, ho⟩ : ∃ o, o = w / 134217728 := ⟨_, rfl⟩
  obtain ⟨d, hd⟩ : ∃ d, d = w / 8388608 % 16 := ⟨_, rfl⟩
  obtain ⟨a, ha⟩ : ∃ a, a = w / 524288 % 16 := ⟨_, rfl⟩
  obtain ⟨b, hb⟩ : ∃ b, b = w / 32768 % 16 := ⟨_, rfl⟩
  obtain ⟨n, hn⟩ : ∃ n, n = w % 32768 := ⟨_, rfl⟩
  have w0 : wrap64 w = w := by unfold wrap64; omega
  have w1 : wrap64 n = n := by unfold wrap64; omega
  have w2 : wrap64 (n - 32768) = n - 32768 := by unfold wrap64; omega
  unfold pleatref02_Decode.f dec
  rw [and15 _ (by omega) (by omega), and15 _ (by omega) (by omega), and15 _ (by omega) (by omega), and32767 _ (by omega) (by omega)]
  rw [← ho, ← hd, ← ha, ← hb, ← hn, wrap_i8 o (by omega) (by omega), wrap_i8 d (by omega) (by omega), wrap_i8 a (by omega) (by omega), wrap_i8 b (by omega) (by omega), w1, has_ref' _ (by omega) o (by omega) (by omega)]
  simp only [Option.bind_some]
  have key : ∀ x : Bool, x = ((fl o).2.2.2.1 && !(fl o).2.2.2.2 && decide (n ≥ 16384)) → pleatref02_Decode.j0 (k + 1) w x o d a b n = some (if o < 22 ∧ okB (fl o) d a b (sel (fl o) n) = true then (o, d, a, b, sel (fl o) n) else (-1, 0, 0, 0, w)) := by
    intro x hx
    have hs : (if x = true then n - 32768 else n) = sel (fl o) n := by unfold sel; rw [hx]
    by_cases c : o < 22
    · have hE := enc_ref k (by omega) o d a b (sel (fl o) n) n w h0 h1 ho hd ha hb hn (sel_or _ _) (by unfold sel; split <;> omega) c
      by_cases ck : okB (fl o) d a b (sel (fl o) n) = true
      · rw [if_pos ck] at hE
        rw [ref_j0 k w x o d a b n w0 w2 w 0 (by rw [hs]; exact hE), hs, if_pos ⟨rfl, rfl⟩, if_pos ⟨c, ck⟩]
      · rw [if_neg ck] at hE
        rw [ref_j0 k w x o d a b n w0 w2 0 11 (by rw [hs]; exact hE), if_neg (by simp), if_neg (by simp [ck])]
    · have hE : pleatref02_Encode.f k o d a b (sel (fl o) n) = some (0, 10) := by
        obtain ⟨k, rfl⟩ : ∃ j, k = j + 1 := ⟨k - 1, by omega⟩
        rw [pleatref02_Encode.f, if_neg (by omega), pleatref02_Encode.j0, if_pos (by simp; omega)]
      rw [ref_j0 k w x o d a b n w0 w2 0 10 (by rw [hs]; exact hE), if_neg (by simp), if_neg (by simp [c])]
  cases c1 : (fl o).2.2.2.1 <;> cases c2 : (fl o).2.2.2.2 <;> simp only [Bool.false_eq_true, if_false, if_true] <;> exact key _ (by simp [c1, c2])
theorem dec_isa' (k : Nat) (hk : 1 ≤ k) (w : Int) (h0 : 0 ≤ w) (h1 : w < 4294967296) : isa_Decode.f k w = some (dec w) := stays (isa_Decode.mono w) (dec_isa w h0 h1) k hk
/-- what a decoded word is like -/
theorem dec_like (w : Int) (h0 : 0 ≤ w) (h1 : w < 4294967296) : -1 ≤ (dec w).1 ∧ (dec w).1 < 22 ∧ 0 ≤ (dec w).2.1 ∧ (dec w).2.1 < 16 ∧ 0 ≤ (dec w).2.2.1 ∧ (dec w).2.2.1 < 16 ∧ 0 ≤ (dec w).2.2.2.1 ∧ (dec w).2.2.2.1 < 16 := by
  unfold dec
  split
  · next h =>
    have := h.1
    refine ⟨?_, ?_, ?_, ?_, ?_, ?_, ?_, ?_⟩ <;> dsimp only <;> omega
  · refine ⟨?_, ?_, ?_, ?_, ?_, ?_, ?_, ?_⟩ <;> dsimp only <;> omega
theorem ends_eq (k j : Nat) (hk : 1 ≤ k) (hj : 7 ≤ j) (w : Int) (h0 : 0 ≤ w) (h1 : w < 4294967296) : ∃ b, isa_Ends.f k w = some b ∧ pleatref02_Ends.f j w = some b := by
  rw [isa_Ends.f, pleatref02_Ends.f, dec_isa' k hk w h0 h1, dec_ref j hj w h0 h1]
  simp only [Option.bind_some]
  generalize (dec w).1 = o
  repeat' split
  all_goals exact ⟨_, rfl, rfl⟩
theorem bit_range (r : Int) (h0 : 0 ≤ r) (h1 : r < 16) : 0 ≤ shl .u16 1 r ∧ shl .u16 1 r < 65536 := by
  have : ∀ i : Fin 16, 0 ≤ shl .u16 1 (i.val : Int) ∧ shl .u16 1 (i.val : Int) < 65536 := by decide
  have := this ⟨r.toNat, by omega⟩
  rw [show ((⟨r.toNat, by omega⟩ : Fin 16).val : Int) = r from by simp; omega] at this
  exact this
theorem or_range (x y : Int) (a : 0 ≤ x) (b : x < 65536) (c : 0 ≤ y) (d : y < 65536) : 0 ≤ Go.bits .or .u16 x y ∧ Go.bits .or .u16 x y < 65536 := by
  rw [u16_or x y a b c d]
  have := Nat.or_lt_two_pow (x := x.toNat) (y := y.toNat) (n := 16) (by omega) (by omega)
  omega
theorem or_zero (x : Int) (a : 0 ≤ x) (b : x < 65536) : Go.bits .or .u16 0 x = x := by
  rw [u16_or 0 x (by omega) (by omega) a b]; simp; omega
theorem or_zero' (x : Int) (a : 0 ≤ x) (b : x < 65536) : Go.bits .or .u16 x 0 = x := by
  rw [u16_or x 0 a b (by omega) (by omega)]; simp; omega
theorem top_bit (x : Int) (a : 0 ≤ x) (b : x < 65536) : (Go.bits .and .u16 x 32768 != 0) = (x / 32768 == 1) := by
  rw [u16_and x 32768 a b (by omega) (by omega)]
  obtain ⟨n, rfl⟩ := Int.eq_ofNat_of_zero_le a
  have hn : n < 65536 := by omega
  have e : ((n : Int).toNat &&& (32768 : Int).toNat) = if n.testBit 15 then 32768 else 0 := by
    simp only [Int.toNat_natCast]
    rw [show (32768 : Int).toNat = 2 ^ 15 from rfl]
    refine Nat.eq_of_testBit_eq (fun i => ?_)
    rw [Nat.testBit_and, Nat.testBit_two_pow]
    by_cases e : 15 = i
    · subst e
      cases n.testBit 15 <;> simp
      decide
    · cases n.testBit 15
      · simp [e]
      · rw [show (if true = true then (32768 : Nat) else 0) = 2 ^ 15 from rfl, Nat.testBit_two_pow]
        simp [e]
  rw [e, Nat.testBit_eq_decide_div_mod_eq]
  by_cases c : n < 32768
  · have e1 : n / 2 ^ 15 = 0 := by omega
    have e2 : (n : Int) / 32768 = 0 := by omega
    simp [e1, e2]
  · have e1 : n / 2 ^ 15 = 1 := by omega
    have e2 : (n : Int) / 32768 = 1 := by omega
    simp [e1, e2]
theorem Has_is (o : Int) (h0 : -1 ≤ o) (h1 : o < 32) : isa_Has.f o = some (fl o) := by
  obtain ⟨F, hF, _, hfl, _⟩ := has_isa o h0 h1
  rw [isa_Has.f, hF, hfl]
  rfl
theorem bit_is (h : Bool) (r : Int) (h0 : 0 ≤ r) (h1 : r < 16) : pleatref13_bit.f h r = some (if h = true then shl .u16 1 r else 0) := by
  rw [pleatref13_bit.f]
  cases h
  · rfl
  · simp [h0]
theorem fl_call : fl 17 = (false, false, false, true, true) ∧ fl 18 = (false, true, false, false, false) := by decide +kernel
/-- what a decoded word reads, and what it writes -/
def reads (i : Int × Int × Int × Int × Int) : Int := Go.bits .or .u16 (if (fl i.1).2.1 = true then shl .u16 1 i.2.2.1 else 0) (if (fl i.1).2.2.1 = true then shl .u16 1 i.2.2.2.1 else 0)
def writes (i : Int × Int × Int × Int × Int) : Int := if i.1 = 17 ∨ i.1 = 18 then 32768 else if (fl i.1).1 = true then shl .u16 1 i.2.1 else 0
theorem links_eq (k j : Nat) (hk : 1 ≤ k) (hj : 8 ≤ j) (w : Int) (h0 : 0 ≤ w) (h1 : w < 4294967296) : ∃ b, touch_Links.f k w = some b ∧ pleatref13_Links.f j w = some b := by
  obtain ⟨l1, l2, l3, l4, l5, l6, l7, l8⟩ := dec_like w h0 h1
  have pr : touch_word_reads.f (dec w).1 (dec w).2.1 (dec w).2.2.1 (dec w).2.2.2.1 (dec w).2.2.2.2 = some (reads (dec w)) := by
    rw [touch_word_reads.f, Has_is _ l1 (by omega)]
    unfold reads
    have r1 := bit_range _ l5 l6
    have r2 := bit_range _ l7 l8
    cases c1 : (fl (dec w).1).2.1 <;> cases c2 : (fl (dec w).1).2.2.1 <;> simp [c1, c2, l5, l7, or_zero _ r1.1 r1.2, or_zero _ r2.1 r2.2, or_zero' _ r1.1 r1.2] <;> rfl
  have pw : touch_word_writes.f (dec w).1 (dec w).2.1 (dec w).2.2.1 (dec w).2.2.2.1 (dec w).2.2.2.2 = some (writes (dec w)) := by
    rw [touch_word_writes.f, Has_is _ l1 (by omega)]
    unfold writes
    by_cases e1 : (dec w).1 = 17
    · rw [e1, fl_call.1]; simp
    · by_cases e2 : (dec w).1 = 18
      · rw [e2, fl_call.2]; simp
      · cases c1 : (fl (dec w).1).1 <;> simp [c1, e1, e2, l3]
  have rr : pleatref13_Reads.f j w = some (reads (dec w)) := by
    rw [pleatref13_Reads.f, dec_ref j (by omega) w h0 h1]
    simp only [Option.bind_some]
    rw [has_ref' j (by omega) _ l1 (by omega)]
    simp only [Option.bind_some]
    rw [bit_is _ _ l5 l6, bit_is _ _ l7 l8]
    rfl
  have rw_ : pleatref13_Writes.f j w = some (writes (dec w)) := by
    obtain ⟨j, rfl⟩ : ∃ i, j = i + 1 := ⟨j - 1, by omega⟩
    rw [pleatref13_Writes.f, dec_ref (j + 1) (by omega) w h0 h1]
    simp only [Option.bind_some]
    unfold writes
    by_cases e1 : (dec w).1 = 17
    · rw [if_pos e1, pleatref13_Writes.j0, if_pos rfl, if_pos (Or.inl e1)]
    · rw [if_neg e1, pleatref13_Writes.j0]
      by_cases e2 : (dec w).1 = 18
      · rw [if_pos (by simp [e2]), if_pos (Or.inr e2)]
      · rw [if_neg (by simp [e2]), if_neg (by simp [e1, e2]), has_ref' j (by omega) _ l1 (by omega)]
        simp only [Option.bind_some]
        rw [bit_is _ _ l3 l4]
        rfl
  have ra : 0 ≤ reads (dec w) ∧ reads (dec w) < 65536 := by
    have r1 := bit_range _ l5 l6
    have r2 := bit_range _ l7 l8
    unfold reads
    exact or_range _ _ (by split <;> omega) (by split <;> omega) (by split <;> omega) (by split <;> omega)
  have wa : 0 ≤ writes (dec w) ∧ writes (dec w) < 65536 := by
    have r1 := bit_range _ l3 l4
    unfold writes
    split
    · omega
    · split <;> omega
  rw [touch_Links.f, dec_isa' k hk w h0 h1, pleatref13_Links.f, rr]
  simp only [Option.bind_some]
  rw [rw_, pr, pw]
  simp only [Option.bind_some]
  have oo := or_range _ _ ra.1 ra.2 wa.1 wa.2
  rw [or_zero _ ra.1 ra.2, top_bit _ oo.1 oo.2]
  exact ⟨_, rfl, rfl⟩
theorem alone_eq (k j : Nat) (hk : 3 ≤ k) (hj : 10 ≤ j) (w : Int) (h0 : 0 ≤ w) (h1 : w < 4294967296) : ∃ b, touch_Alone.f k w = some b ∧ pleatref13_Alone.f j w = some b := by
  obtain ⟨k, rfl⟩ : ∃ i, k = i + 2 := ⟨k - 2, by omega⟩
  obtain ⟨j, rfl⟩ : ∃ i, j = i + 2 := ⟨j - 2, by omega⟩
  obtain ⟨b, e1, e2⟩ := links_eq k j (by omega) (by omega) w h0 h1
  rw [touch_Alone.f, pleatref13_Alone.f, dec_isa' (k + 2) (by omega) w h0 h1, dec_ref (j + 2) (by omega) w h0 h1]
  simp only [Option.bind_some, touch_Alone.j0, pleatref13_Alone.j0, touch_Alone.j1, pleatref13_Alone.j1, e1, e2]
  generalize (dec w).1 = o
  generalize (dec w).2.2.1 = q
  repeat' split
  all_goals exact ⟨_, rfl, rfl⟩
theorem rd_u32 {l : List Int} (h : ∀ x ∈ l, (Lit.int .u32 x).wf = true) (i : Int) (h0 : 0 ≤ i) (h1 : i < l.length) : 0 ≤ rd l i ∧ rd l i < 4294967296 := by
  have hm : rd l i ∈ l := by
    unfold rd
    rw [List.getD_eq_getElem?_getD, List.getElem?_eq_getElem (by omega)]
    exact List.getElem_mem _
  have := h _ hm
  simp [Lit.wf, IntKind.min, IntKind.max, IntKind.bits, IntKind.signed] at this
  omega
theorem kind_loop (l : List Int) (hl : l.length ≤ 8192) (h : ∀ x ∈ l, (Lit.int .u32 x).wf = true) (d : Nat) : ∀ (i : Int) (k j : Nat), 0 ≤ i → i ≤ l.length → (l.length : Int) - i = d → d + 12 ≤ k → d + 12 ≤ j → ∃ r, class_Kind.l0 k l l l.length i = some r ∧ pleatref19_Kind.l0 j l i = some r := by
  induction d with
  | zero =>
    intro i k j h0 h1 hd hk hj
    obtain ⟨k, rfl⟩ : ∃ m, k = m + 1 := ⟨k - 1, by omega⟩
    obtain ⟨j, rfl⟩ : ∃ m, j = m + 1 := ⟨j - 1, by omega⟩
    rw [class_Kind.l0, if_neg (show ¬ i < (l.length : Int) by omega), pleatref19_Kind.l0, if_neg (show ¬ i < (l.length : Int) by omega)]
    by_cases e : (l.length : Int) = 0
    · simp only [if_pos e]; exact ⟨_, rfl, rfl⟩
    · have hw : wrap64 ((l.length : Int) - 1) = (l.length : Int) - 1 := by unfold wrap64; omega
      rw [hw]
      simp only [if_neg e, if_pos (show (0 : Int) ≤ (l.length : Int) - 1 by omega), if_pos (show (l.length : Int) - 1 < (l.length : Int) by omega)]
      have hu := rd_u32 h ((l.length : Int) - 1) (by omega) (by omega)
      rw [dec_isa' k (by omega) _ hu.1 hu.2, dec_ref j (by omega) _ hu.1 hu.2]
      simp only [Option.bind_some]
      generalize (dec (rd l ((l.length : Int) - 1))).1 = o
      obtain ⟨k, rfl⟩ : ∃ m, k = m + 1 := ⟨k - 1, by omega⟩
      obtain ⟨j, rfl⟩ : ∃ m, j = m + 1 := ⟨j - 1, by omega⟩
      simp only [class_Kind.j1, pleatref19_Kind.j1]
      repeat' split
      all_goals exact ⟨_, rfl, rfl⟩
  | succ d ih =>
    intro i k j h0 h1 hd hk hj
    obtain ⟨k, rfl⟩ : ∃ m, k = m + 1 := ⟨k - 1, by omega⟩
    obtain ⟨j, rfl⟩ : ∃ m, j = m + 1 := ⟨j - 1, by omega⟩
    have hw : wrap64 ((l.length : Int) - 1) = (l.length : Int) - 1 := by unfold wrap64; omega
    have hw2 : wrap64 (i + 1) = i + 1 := by unfold wrap64; omega
    have hu := rd_u32 h i (by omega) (by omega)
    obtain ⟨b, e1, e2⟩ := alone_eq k j (by omega) (by omega) _ hu.1 hu.2
    obtain ⟨b', e3, e4⟩ := ends_eq k j (by omega) (by omega) _ hu.1 hu.2
    obtain ⟨r, e5, e6⟩ := ih (i + 1) k j (by omega) (by omega) (by omega) (by omega) (by omega)
    rw [class_Kind.l0, pleatref19_Kind.l0]
    simp only [if_pos (show i < (l.length : Int) by omega), if_pos h0, e1, e2]
    simp only [Option.bind_some, hw, hw2, e3, e4, e5, e6]
    cases b
    · simp only [Bool.false_eq_true, if_false]
      by_cases c : i + 1 < (l.length : Int)
      · simp only [if_pos c, if_pos (show i < (l.length : Int) - 1 by omega)]
        cases b'
        · exact ⟨r, rfl, rfl⟩
        · exact ⟨0, rfl, rfl⟩
      · simp only [if_neg c, if_neg (show ¬ i < (l.length : Int) - 1 by omega)]
        exact ⟨r, rfl, rfl⟩
    · exact ⟨0, rfl, rfl⟩
theorem eq_loop (l : List Int) (hl : l.length ≤ 8192) (d : Nat) : ∀ (i : Int) (k : Nat), 0 ≤ i → i ≤ l.length → (l.length : Int) - i = d → d < k → pleatref00_EqWords.l0 k l l i = some true := by
  induction d with
  | zero =>
    intro i k h0 h1 hd hk
    obtain ⟨k, rfl⟩ : ∃ m, k = m + 1 := ⟨k - 1, by omega⟩
    rw [pleatref00_EqWords.l0, if_neg (by omega)]
  | succ d ih =>
    intro i k h0 h1 hd hk
    obtain ⟨k, rfl⟩ : ∃ m, k = m + 1 := ⟨k - 1, by omega⟩
    rw [pleatref00_EqWords.l0, if_pos (by omega), if_pos (by omega), if_pos (by omega), if_pos rfl, show wrap64 (i + 1) = i + 1 by unfold wrap64; omega]
    exact ih (i + 1) k (by omega) (by omega) (by omega) (by omega)
theorem works_true : pleatlaw19_works.f 60 = some true := by decide +kernel
theorem ClassKinds : pleatlaw19_ClassKinds.Pure := by
  intro l hm hs hw
  refine ⟨l.length + 100, ?_⟩
  have hworks := stays pleatlaw19_works.mono works_true (l.length + 100) (by omega)
  rw [pleatlaw19_ClassKinds.f]
  by_cases c : (l.length : Int) > 8192
  · rw [if_pos c, hworks]; rfl
  · rw [if_neg c, pleatref00_CopyWords.f, if_pos (by simp; omega)]
    simp only [Option.bind_some, List.nil_append]
    obtain ⟨r, e1, e2⟩ := kind_loop l (by omega) hw l.length 0 (l.length + 100) (l.length + 100) (by omega) (by omega) (by omega) (by omega) (by omega)
    rw [class_Kind.f, e1, pleatref19_Kind.f, e2]
    simp only [Option.bind_some, if_true]
    rw [pleatref00_EqWords.f, if_pos rfl, eq_loop l (by omega) l.length 0 _ (by omega) (by omega) (by omega) (by omega)]
    simp only [Option.bind_some, if_true, hworks]
end Go.Proofs.Ytidcijicehgfkaa.Pure
