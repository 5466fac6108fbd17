-- Printed by this session's own program (wip/tools/hybrid.sh) over its own contracts
import Derived.Test.YtidcijicehgfkaaPKx0
import Derived.BigGuardPart
import Derived.Deep.Cut
import Derived.Laws.CopyOwn
import Derived.Laws.Tables
import Derived.LoopN
namespace Go.Proofs.Ytidcijicehgfkaa.PK
open Go.RowKit Go.Proofs.YtidcijicehgfkaaW.PrintWords Go.Proofs.YtidcijicehgfkaaW.PrintLast Go.Proofs.YtidcijicehgfkaaW.PrintMore
attribute [local go_sem] max2_int min2_int max_two min_two max_three min_three max_four min_four   -- for this text's walks alone
set_option linter.unusedVariables false
set_option linter.unusedSimpArgs false

-- NOT PRINTED: function 39 (isa_fields)

/-! ### isa_has: function 21 -/
-- IMPORTS Derived.Deep.Cut Derived.Laws.CopyOwn Derived.Laws.Tables
def isa_fields.tab : List Int := [0, 9, 3, 7, 7, 7, 7, 7, 7, 7, 7, 11, 14, 1, 10, 24, 26, 24, 2, 2, 25, 0]
theorem isa_fields.size : (Try.prog.info? 75).map (·.size) = some (nums .i64 isa_fields.tab).toArray.size := by kernel_rfl
set_option maxHeartbeats 8000000 in
set_option maxRecDepth 100000 in
theorem isa_fields.calls (w : World) :
  Calls Try.prog 39 #[] w fun e w' => e = .returned (.agg (nums .i64 isa_fields.tab).toArray) ∧ Below w.heap.size w w' := by
 go_enter Try.func39, Try.ntmps39
 go_wp2
 refine wp_loop_rounds 9 ?_
 rw [rounds_succ]; go_wp2_with fail
 rw [rounds_succ]; go_wp2_with fail
 rw [rounds_succ]; go_wp2_with fail
 rw [rounds_succ]; go_wp2_with fail
 rw [rounds_succ]; go_wp2_with fail
 rw [rounds_succ]; go_wp2_with fail
 rw [rounds_succ]; go_wp2_with fail
 rw [rounds_succ]; go_wp2_with fail
 rw [rounds_succ]
 go_upto_region 18 with (fail)
 go_step
 refine wpList_load_row (by rfl) 75 (.tmp 1) (by rfl) (w.heap.size + 1) (by rfl) 75 (nums .i64 isa_fields.tab).toArray (0, 0) _ (by exact heap_alloc2_new _ _ _) Try.underlying75 (by rfl) isa_fields.size ?_
 refine wpList_store_row (by rfl) 75 (.tmp 0) (.tmp 21) (by rfl) w.heap.size (nums .i64 isa_fields.tab).toArray (by rfl) (by rfl) 75 _ (by exact heap_alloc2_old _ _ _) isa_fields.size (by rfl) (by simp [nums, isa_fields.tab, Value.oneCell']) ?_
 go_wp2
 refine bodyPost_ret (results_cell_row rfl _ _ w.heap.size 75 (nums .i64 isa_fields.tab).toArray (0, 0) _ (by rfl) (by exact setRow_heap _ _ _ _ 75 _ (heap_alloc2_old _ _ _)) Try.underlying75 (by rfl) isa_fields.size) rfl ⟨rfl, ?_⟩
 exact below_setRow (below_alloc (below_alloc (Below.refl _ _) _) _) (Nat.le_refl _) _

theorem run_index_nums {P : Program} (t e n : Nat) (k ki : IntKind) (xs : List Int) (i : Int) (hu : P.underlying t = some (.array n e)) (he : P.underlying e = some (.int k)) (hi : (P.info? e).map (·.size) = some 1) (hn : n = xs.length) (h0 : 0 ≤ i) (h1 : i < n) (W : World) :
  (Instr.index t (.agg (nums k xs).toArray) (.int ki i)).run P W = .ok (.int k (rd xs i)) W := by
 obtain ⟨ie, hie, hs⟩ := Option.map_eq_some_iff.1 hi
 have hl : i.toNat < xs.length := by omega
 have hagg : (isAgg e).run P W = .ok false W := by simp [isAgg, run_underlying he]
 simp [Instr.index, asIntOf, run_underlying hu, h0, h1, part, hagg, sizeOf, typeInfo, hie, hs, nums, rd, hl, List.getD_eq_getElem?_getD]
def isa_has.f (a0 : Int) : Option (Int) := if a0 < 0 then some 0 else if a0 ≥ 22 then some 0 else some (rd isa_fields.tab a0)
set_option maxHeartbeats 8000000 in
set_option maxRecDepth 100000 in
theorem isa_has.calls (a0 : Int) (r : Int) (w : World) (h : isa_has.f a0 = some r) :
  Calls Try.prog 21 #[.int .i8 a0] w fun e w' => e = .returned (.int .i64 r) ∧ Below w.heap.size w w' := by
 unfold isa_has.f at h
 by_cases c1 : a0 < 0
 ·rw [if_pos c1] at h
  obtain rfl := Option.some.inj h
  go_enter Try.func21, Try.ntmps21
  go_wp2
  go_ret
  exact ⟨rfl, Below.refl _ _⟩
 ·rw [if_neg c1] at h
  by_cases c2 : a0 ≥ 22
  ·rw [if_pos c2] at h
   obtain rfl := Option.some.inj h
   go_enter Try.func21, Try.ntmps21
   go_wp2
   go_ret
   exact ⟨rfl, Below.refl _ _⟩
  ·rw [if_neg c2] at h
   obtain rfl := Option.some.inj h
   go_enter Try.func21, Try.ntmps21
   have hx := fun W => run_index_nums (P := Try.prog) 75 3 22 .i64 .i8 isa_fields.tab a0 Try.underlying75 Try.underlying3 (by kernel_rfl) rfl (by omega) (by omega) W
   go_wp2_with (go_at_call 39; refine (isa_fields.calls _).mono ?_; rintro e w1 ⟨rfl, hb⟩)
   go_ret
   exact ⟨rfl, hb⟩

/-! ### isa_Encode: function 22 -/
-- IMPORTS Derived.BigGuardPart
def isa_Encode.bad (F r m : Int) : Bool := decide (r < 0) || decide (16 ≤ r) || (!(r == 0) && (Go.bits .and .i64 F m == 0))
def isa_Encode.lo (F : Int) : Int := if Go.bits .and .i64 F 16 != 0 then 0 else if Go.bits .and .i64 F 8 != 0 then -16384 else 0
def isa_Encode.hi (F : Int) : Int := if Go.bits .and .i64 F 16 != 0 then 16383 else if Go.bits .and .i64 F 8 != 0 then 16383 else 0
def isa_Encode.word (a0 a1 a2 a3 a4 : Int) : Int :=
 Go.bits .or .u32 (Go.bits .or .u32 (Go.bits .or .u32 (Go.bits .or .u32 (a0 * 134217728) (a1 * 8388608)) (a2 * 524288)) (a3 * 32768)) (Go.bits .and .u32 (a4 % 4294967296) 32767)
def isa_Encode.g (F a0 a1 a2 a3 a4 : Int) : Int × Int :=
 if (isa_Encode.bad F a1 1 || isa_Encode.bad F a2 2 || isa_Encode.bad F a3 4) = true then (0, 11)
 else if a4 < isa_Encode.lo F ∨ isa_Encode.hi F < a4 then (0, 11) else (isa_Encode.word a0 a1 a2 a3 a4, 0)
theorem isa_Encode.bad1 {F r m : Int} (h : r < 0) : isa_Encode.bad F r m = true := by simp [isa_Encode.bad, h]
theorem isa_Encode.bad2 {F r m : Int} (h : 16 ≤ r) : isa_Encode.bad F r m = true := by simp [isa_Encode.bad, h]
theorem isa_Encode.bad3 {F r m : Int} (h : ¬ r = 0) (h2 : (Go.bits .and .i64 F m == 0) = true) : isa_Encode.bad F r m = true := by simp only [isa_Encode.bad, h2]; simp [h]
theorem isa_Encode.ok1 {F r m : Int} (h0 : 0 ≤ r) (h1 : r < 16) (h2 : (Go.bits .and .i64 F m == 0) = false) : isa_Encode.bad F r m = false := by
 simp only [isa_Encode.bad, h2]; simp; omega
theorem isa_Encode.ok2 (F m : Int) : isa_Encode.bad F 0 m = false := by simp [isa_Encode.bad]
theorem isa_Encode.b {x y z : Bool} (h : x = true ∨ y = true ∨ z = true) : (x || y || z) = true := by revert h; cases x <;> cases y <;> cases z <;> simp
theorem isa_Encode.nb {x y z : Bool} (h1 : x = false) (h2 : y = false) (h3 : z = false) : (x || y || z) = false := by simp [h1, h2, h3]
theorem isa_Encode.gBad {F a0 a1 a2 a3 a4 : Int} (h : (isa_Encode.bad F a1 1 || isa_Encode.bad F a2 2 || isa_Encode.bad F a3 4) = true) : isa_Encode.g F a0 a1 a2 a3 a4 = (0, 11) := by rw [isa_Encode.g, if_pos h]
theorem isa_Encode.range {F : Int} : ((Go.bits .and .i64 F 16 != 0) = true → isa_Encode.lo F = 0 ∧ isa_Encode.hi F = 16383) ∧ ((Go.bits .and .i64 F 16 != 0) = false → (Go.bits .and .i64 F 8 != 0) = true → isa_Encode.lo F = -16384 ∧ isa_Encode.hi F = 16383) ∧
  ((Go.bits .and .i64 F 16 != 0) = false → (Go.bits .and .i64 F 8 != 0) = false → isa_Encode.lo F = 0 ∧ isa_Encode.hi F = 0) := by
 refine ⟨fun h => ?_, fun h h2 => ?_, fun h h2 => ?_⟩ <;> simp only [isa_Encode.lo, isa_Encode.hi, h] <;> try simp only [h2]
 all_goals simp
theorem isa_Encode.gN {F a0 a1 a2 a3 a4 l u : Int} (h : (isa_Encode.bad F a1 1 || isa_Encode.bad F a2 2 || isa_Encode.bad F a3 4) = false) (hr : isa_Encode.lo F = l ∧ isa_Encode.hi F = u) (h4 : a4 < l ∨ u < a4) : isa_Encode.g F a0 a1 a2 a3 a4 = (0, 11) := by
 rw [isa_Encode.g, if_neg (by simp [h]), hr.1, hr.2, if_pos h4]
theorem isa_Encode.gW {F a0 a1 a2 a3 a4 l u m : Int} (h : (isa_Encode.bad F a1 1 || isa_Encode.bad F a2 2 || isa_Encode.bad F a3 4) = false) (hr : isa_Encode.lo F = l ∧ isa_Encode.hi F = u) (h4 : ¬ (a4 < l ∨ u < a4)) (hm : a4 % 4294967296 = m) {x y z : Int} (hx : a1 * 8388608 = x) (hy : a2 * 524288 = y) (hz : a3 * 32768 = z) :
  isa_Encode.g F a0 a1 a2 a3 a4 = (Go.bits .or .u32 (Go.bits .or .u32 (Go.bits .or .u32 (Go.bits .or .u32 (a0 * 134217728) x) y) z) (Go.bits .and .u32 m 32767), 0) := by
 rw [isa_Encode.g, if_neg (by simp [h]), hr.1, hr.2, if_neg h4, isa_Encode.word, hm, hx, hy, hz]
def isa_Encode.post (F a0 a1 a2 a3 a4 : Int) (w : World) (e : Ending) (w' : World) : Prop :=
 e = .returned (.tuple #[.int .u32 (isa_Encode.g F a0 a1 a2 a3 a4).1, .int .i64 (isa_Encode.g F a0 a1 a2 a3 a4).2]) ∧ Below w.heap.size w w'
theorem isa_Encode.mk {F a0 a1 a2 a3 a4 x y : Int} {w w' : World} (h : isa_Encode.g F a0 a1 a2 a3 a4 = (x, y)) (hb : Below w.heap.size w w') :
  isa_Encode.post F a0 a1 a2 a3 a4 w (.returned (.tuple #[.int .u32 x, .int .i64 y])) w' := ⟨by rw [h], hb⟩
theorem isa_Encode.index (x y z j : Int) (h0 : 0 ≤ j) (h1 : j < 3) (W : World) : (Instr.index 77 (.agg (nums .i8 [x, y, z]).toArray) (.int .i64 j)).run Try.prog W = .ok (.int .i8 (rd [x, y, z] j)) W :=
 run_index_nums (P := Try.prog) 77 25 3 .i8 .i64 [x, y, z] j Try.underlying77 Try.underlying25 (by kernel_rfl) rfl h0 h1 W
set_option maxHeartbeats 8000000 in
set_option maxRecDepth 100000 in
theorem isa_Encode.mid (a0_0 : Int) (a0_1 : Int) (a0_2 : Int) (a0_3 : Int) (a0_4 : Int) (F : Int) (w : World) (c1 : 0 ≤ a0_0) (c2 : a0_0 < 22) (hF : isa_has.f a0_0 = some F) :
  Calls Try.prog 22 #[.agg #[.int .i8 a0_0, .int .i8 a0_1, .int .i8 a0_2, .int .i8 a0_3, .int .i64 a0_4]] w (isa_Encode.post F a0_0 a0_1 a0_2 a0_3 a0_4 w) := by
 have HF := Aside0.mk hF
 clear hF
 have hx0 : ∀ (x y z : Int) W, (Instr.index 77 (.agg #[.int .i8 x, .int .i8 y, .int .i8 z]) (.int .i64 0)).run Try.prog W = .ok (.int .i8 x) W := fun x y z W => isa_Encode.index x y z 0 (by decide) (by decide) W
 have hx1 : ∀ (x y z : Int) W, (Instr.index 77 (.agg #[.int .i8 x, .int .i8 y, .int .i8 z]) (.int .i64 1)).run Try.prog W = .ok (.int .i8 y) W := fun x y z W => isa_Encode.index x y z 1 (by decide) (by decide) W
 have hx2 : ∀ (x y z : Int) W, (Instr.index 77 (.agg #[.int .i8 x, .int .i8 y, .int .i8 z]) (.int .i64 2)).run Try.prog W = .ok (.int .i8 z) W := fun x y z W => isa_Encode.index x y z 2 (by decide) (by decide) W
 go_enter Try.func22, Try.ntmps22
 go_wp2_with fail
 refine (isa_has.calls a0_0 F _ HF.out).mono ?_
 rintro e w1 ⟨rfl, hb⟩
 have HB := Aside0.mk (below_then (below_alloc (Below.refl w.heap.size w) _) (by simp) hb)
 have hbk := hb.block w.heap.size (by simp)
 have BK := hbk.trans (heap_alloc_new w _)
 clear hb hbk
 have hl := blk_lt BK
 have k1 := (blk_cell BK 1).trans rfl
 have k2 := (blk_cell BK 2).trans rfl
 have k3 := (blk_cell BK 3).trans rfl
 have j4 := fun o => (blk_cell (blk_alloc BK o) 4).trans rfl
 have j0 := fun o => (blk_cell (blk_alloc BK o) 0).trans rfl
 have j1 := fun o => (blk_cell (blk_alloc BK o) 1).trans rfl
 have j2 := fun o => (blk_cell (blk_alloc BK o) 2).trans rfl
 have j3 := fun o => (blk_cell (blk_alloc BK o) 3).trans rfl
 clear BK
 go_wp2_with fail
 refine wp_loop_rounds 4 ?_
 repeat any_goals (rw [rounds_succ]; go_wp2_with fail)
 all_goals
  go_ret2
  refine isa_Encode.mk ?_ (below_alloc HB.out _)
  clear j0 j1 j2 j3 j4 k1 k2 k3 hx0 hx1 hx2
  subst_vars
  first
  | exact isa_Encode.gBad (isa_Encode.b (.inl (by first | exact isa_Encode.bad1 (by with_reducible assumption) | exact isa_Encode.bad2 (by with_reducible assumption) | exact isa_Encode.bad3 (by with_reducible assumption) (by with_reducible assumption))))
  | exact isa_Encode.gBad (isa_Encode.b (.inr (.inl (by first | exact isa_Encode.bad1 (by with_reducible assumption) | exact isa_Encode.bad2 (by with_reducible assumption) | exact isa_Encode.bad3 (by with_reducible assumption) (by with_reducible assumption)))))
  | exact isa_Encode.gBad (isa_Encode.b (.inr (.inr (by first | exact isa_Encode.bad1 (by with_reducible assumption) | exact isa_Encode.bad2 (by with_reducible assumption) | exact isa_Encode.bad3 (by with_reducible assumption) (by with_reducible assumption)))))
  | exact isa_Encode.gN (isa_Encode.nb (by first | (with_reducible exact isa_Encode.ok2 F _) | exact isa_Encode.ok1 (by with_reducible assumption) (by with_reducible assumption) (by with_reducible assumption)) (by first | (with_reducible exact isa_Encode.ok2 F _) | exact isa_Encode.ok1 (by with_reducible assumption) (by with_reducible assumption) (by with_reducible assumption)) (by first | (with_reducible exact isa_Encode.ok2 F _) | exact isa_Encode.ok1 (by with_reducible assumption) (by with_reducible assumption) (by with_reducible assumption))) (by first | exact isa_Encode.range.1 (by with_reducible assumption) | exact isa_Encode.range.2.1 (by with_reducible assumption) (by with_reducible assumption) | exact isa_Encode.range.2.2 (by with_reducible assumption) (by with_reducible assumption)) (by omega)
  | exact isa_Encode.gW (isa_Encode.nb (by first | (with_reducible exact isa_Encode.ok2 F _) | exact isa_Encode.ok1 (by with_reducible assumption) (by with_reducible assumption) (by with_reducible assumption)) (by first | (with_reducible exact isa_Encode.ok2 F _) | exact isa_Encode.ok1 (by with_reducible assumption) (by with_reducible assumption) (by with_reducible assumption)) (by first | (with_reducible exact isa_Encode.ok2 F _) | exact isa_Encode.ok1 (by with_reducible assumption) (by with_reducible assumption) (by with_reducible assumption))) (by first | exact isa_Encode.range.1 (by with_reducible assumption) | exact isa_Encode.range.2.1 (by with_reducible assumption) (by with_reducible assumption) | exact isa_Encode.range.2.2 (by with_reducible assumption) (by with_reducible assumption)) (by omega) (by first | (with_reducible rfl) | exact Int.emod_eq_of_lt (by omega) (by omega)) (by first | (with_reducible rfl) | omega) (by first | (with_reducible rfl) | omega) (by first | (with_reducible rfl) | omega)
def isa_Encode.f (a0_0 : Int) (a0_1 : Int) (a0_2 : Int) (a0_3 : Int) (a0_4 : Int) : Option (Int × Int) :=
 if a0_0 < 0 then some (0, 10) else if a0_0 ≥ 22 then some (0, 10) else some (isa_Encode.g (rd isa_fields.tab a0_0) a0_0 a0_1 a0_2 a0_3 a0_4)
set_option maxHeartbeats 8000000 in
set_option maxRecDepth 100000 in
theorem isa_Encode.calls (a0_0 : Int) (a0_1 : Int) (a0_2 : Int) (a0_3 : Int) (a0_4 : Int) (r1 : Int) (r2 : Int) (w : World) (h : isa_Encode.f a0_0 a0_1 a0_2 a0_3 a0_4 = some (r1, r2)) :
  Calls Try.prog 22 #[.agg #[.int .i8 a0_0, .int .i8 a0_1, .int .i8 a0_2, .int .i8 a0_3, .int .i64 a0_4]] w fun e w' => e = .returned (.tuple #[.int .u32 r1, .int .i64 r2]) ∧ Below w.heap.size w w' := by
 unfold isa_Encode.f at h
 by_cases c1 : a0_0 < 0
 ·rw [if_pos c1] at h
  simp only [Option.some.injEq, Prod.mk.injEq] at h
  obtain ⟨rfl, rfl⟩ := h
  go_enter Try.func22, Try.ntmps22
  go_wp2_with fail
  go_ret2
  exact ⟨rfl, below_alloc (Below.refl _ _) _⟩
 ·rw [if_neg c1] at h
  by_cases c2 : a0_0 ≥ 22
  ·rw [if_pos c2] at h
   simp only [Option.some.injEq, Prod.mk.injEq] at h
   obtain ⟨rfl, rfl⟩ := h
   go_enter Try.func22, Try.ntmps22
   go_wp2_with fail
   go_ret2
   exact ⟨rfl, below_alloc (Below.refl _ _) _⟩
  ·rw [if_neg c2] at h
   refine (isa_Encode.mid a0_0 a0_1 a0_2 a0_3 a0_4 (rd isa_fields.tab a0_0) w (by omega) (by omega) (by rw [isa_has.f, if_neg c1, if_neg c2])).mono ?_
   rintro e w' ⟨rfl, hb⟩
   simp only [Option.some.injEq] at h
   rw [h]
   exact ⟨rfl, hb⟩

/-! ### isa_Decode: function 12 -/
def isa_Decode.j0 : Nat → Int → Bool → Int → Int → Int → Int → Int → Option (Int × Int × Int × Int × Int)
 | 0, _, _, _, _, _, _, _ => none
 | k + 1, x0, x41, x103000, x103001, x103002, x103003, x103004 => if x41 = true then ((isa_Encode.f x103000 x103001 x103002 x103003 (wrap64 (x103004 - 32768))).bind fun bt104 => (if bt104.2 = 0 then (if bt104.1 = x0 then (some (x103000, x103001, x103002, x103003, wrap64 (x103004 - 32768))) else (some ((-1), 0, 0, 0, wrap64 (x0)))) else (some ((-1), 0, 0, 0, wrap64 (x0))))) else ((isa_Encode.f x103000 x103001 x103002 x103003 x103004).bind fun bt106 => (if bt106.2 = 0 then (if bt106.1 = x0 then (some (x103000, x103001, x103002, x103003, x103004)) else (some ((-1), 0, 0, 0, wrap64 (x0)))) else (some ((-1), 0, 0, 0, wrap64 (x0)))))
def isa_Decode.f (k : Nat) (a0 : Int) : Option (Int × Int × Int × Int × Int) := (isa_has.f (IntKind.i8.wrap (a0 / 134217728))).bind fun t103 => (if (Go.bits .and .i64 t103 8) = 0 then (isa_Decode.j0 k a0 false (IntKind.i8.wrap (a0 / 134217728)) (IntKind.i8.wrap (Go.bits .and .u32 (a0 / 8388608) 15)) (IntKind.i8.wrap (Go.bits .and .u32 (a0 / 524288) 15)) (IntKind.i8.wrap (Go.bits .and .u32 (a0 / 32768) 15)) (wrap64 (Go.bits .and .u32 a0 32767))) else (if (Go.bits .and .i64 t103 16) = 0 then (isa_Decode.j0 k a0 (decide ((wrap64 (Go.bits .and .u32 a0 32767)) ≥ 16384)) (IntKind.i8.wrap (a0 / 134217728)) (IntKind.i8.wrap (Go.bits .and .u32 (a0 / 8388608) 15)) (IntKind.i8.wrap (Go.bits .and .u32 (a0 / 524288) 15)) (IntKind.i8.wrap (Go.bits .and .u32 (a0 / 32768) 15)) (wrap64 (Go.bits .and .u32 a0 32767))) else (isa_Decode.j0 k a0 false (IntKind.i8.wrap (a0 / 134217728)) (IntKind.i8.wrap (Go.bits .and .u32 (a0 / 8388608) 15)) (IntKind.i8.wrap (Go.bits .and .u32 (a0 / 524288) 15)) (IntKind.i8.wrap (Go.bits .and .u32 (a0 / 32768) 15)) (wrap64 (Go.bits .and .u32 a0 32767)))))
theorem isa_Decode.mono_l : ∀ k, (∀ y0 y1 y2 y3 y4 y5 y6, LeO (isa_Decode.j0 k y0 y1 y2 y3 y4 y5 y6) (isa_Decode.j0 (k + 1) y0 y1 y2 y3 y4 y5 y6))
 | 0 => fun _ _ _ _ _ _ _ r h => by simp [isa_Decode.j0] at h
 | k + 1 => by
  have ih0 := isa_Decode.mono_l k
  ·intro y0 y1 y2 y3 y4 y5 y6
   unfold isa_Decode.j0
   repeat' first
   | (with_reducible exact ih0 _ _ _ _ _ _ _)
   | (with_reducible exact LeO.refl _)
   | (with_reducible exact LeO.none _)
   | (with_reducible refine LeO.ite ?_ ?_)
   | (with_reducible refine LeO.bind ?_ (fun _ => ?_))
   | exact ih0 _ _ _ _ _ _ _
   | exact LeO.none _
   | refine LeO.ite ?_ ?_
   | refine LeO.bind ?_ (fun _ => ?_)
theorem isa_Decode.mono : ∀ a0 k, LeO (isa_Decode.f k a0) (isa_Decode.f (k + 1) a0) := by
 intro a0 k
 have ih0 := isa_Decode.mono_l k
 unfold isa_Decode.f
 repeat' first
   | (with_reducible exact ih0 _ _ _ _ _ _ _)
   | (with_reducible exact LeO.refl _)
   | (with_reducible exact LeO.none _)
   | (with_reducible refine LeO.ite ?_ ?_)
   | (with_reducible refine LeO.bind ?_ (fun _ => ?_))
   | exact ih0 _ _ _ _ _ _ _
   | exact LeO.none _
   | refine LeO.ite ?_ ?_
   | refine LeO.bind ?_ (fun _ => ?_)
set_option maxHeartbeats 8000000 in
set_option maxRecDepth 100000 in
theorem isa_Decode.calls (k : Nat) (a0 : Int) (r1 : Int) (r2 : Int) (r3 : Int) (r4 : Int) (r5 : Int) (w : World) (h : isa_Decode.f k a0 = some (r1, r2, r3, r4, r5)) :
  Calls Try.prog 12 #[.int .u32 a0] w fun e w' => e = .returned (.agg #[.int .i8 r1, .int .i8 r2, .int .i8 r3, .int .i8 r4, .int .i64 r5]) ∧ Below w.heap.size w w' := by
 have hu40 := Try.underlying40
 have HB := Aside0.mk (Below.refl w.heap.size w)
 have H : ((isa_has.f (IntKind.i8.wrap (a0 / 134217728))).bind fun t103 => (if (Go.bits .and .i64 t103 8) = 0 then (isa_Decode.j0 k a0 false (IntKind.i8.wrap (a0 / 134217728)) (IntKind.i8.wrap (Go.bits .and .u32 (a0 / 8388608) 15)) (IntKind.i8.wrap (Go.bits .and .u32 (a0 / 524288) 15)) (IntKind.i8.wrap (Go.bits .and .u32 (a0 / 32768) 15)) (wrap64 (Go.bits .and .u32 a0 32767))) else (if (Go.bits .and .i64 t103 16) = 0 then (isa_Decode.j0 k a0 (decide ((wrap64 (Go.bits .and .u32 a0 32767)) ≥ 16384)) (IntKind.i8.wrap (a0 / 134217728)) (IntKind.i8.wrap (Go.bits .and .u32 (a0 / 8388608) 15)) (IntKind.i8.wrap (Go.bits .and .u32 (a0 / 524288) 15)) (IntKind.i8.wrap (Go.bits .and .u32 (a0 / 32768) 15)) (wrap64 (Go.bits .and .u32 a0 32767))) else (isa_Decode.j0 k a0 false (IntKind.i8.wrap (a0 / 134217728)) (IntKind.i8.wrap (Go.bits .and .u32 (a0 / 8388608) 15)) (IntKind.i8.wrap (Go.bits .and .u32 (a0 / 524288) 15)) (IntKind.i8.wrap (Go.bits .and .u32 (a0 / 32768) 15)) (wrap64 (Go.bits .and .u32 a0 32767)))))) = some (r1, r2, r3, r4, r5) := h
 clear h
 replace H := Option.bind_eq_some_iff.mp H
 obtain ⟨t103, A20, H⟩ := H
 replace H : (if (Go.bits .and .i64 t103 8) = 0 then (isa_Decode.j0 k a0 false (IntKind.i8.wrap (a0 / 134217728)) (IntKind.i8.wrap (Go.bits .and .u32 (a0 / 8388608) 15)) (IntKind.i8.wrap (Go.bits .and .u32 (a0 / 524288) 15)) (IntKind.i8.wrap (Go.bits .and .u32 (a0 / 32768) 15)) (wrap64 (Go.bits .and .u32 a0 32767))) else (if (Go.bits .and .i64 t103 16) = 0 then (isa_Decode.j0 k a0 (decide ((wrap64 (Go.bits .and .u32 a0 32767)) ≥ 16384)) (IntKind.i8.wrap (a0 / 134217728)) (IntKind.i8.wrap (Go.bits .and .u32 (a0 / 8388608) 15)) (IntKind.i8.wrap (Go.bits .and .u32 (a0 / 524288) 15)) (IntKind.i8.wrap (Go.bits .and .u32 (a0 / 32768) 15)) (wrap64 (Go.bits .and .u32 a0 32767))) else (isa_Decode.j0 k a0 false (IntKind.i8.wrap (a0 / 134217728)) (IntKind.i8.wrap (Go.bits .and .u32 (a0 / 8388608) 15)) (IntKind.i8.wrap (Go.bits .and .u32 (a0 / 524288) 15)) (IntKind.i8.wrap (Go.bits .and .u32 (a0 / 32768) 15)) (wrap64 (Go.bits .and .u32 a0 32767))))) = some (r1, r2, r3, r4, r5) := H
 have A2 := Aside0.mk A20
 clear A20
 have HC3 := Aside0.mk H
 clear H
 go_enter Try.func12, Try.ntmps12
 go_upto_region 3 with (first | ((with_reducible refine gate_dst (N := 2) rfl ?_); refine box_event ?hg (N := 2) ?hd (cs := #[.int .i8 0, .int .i8 0, .int .i8 0, .int .i8 0, .int .i64 0]) (t := 40) ?hr ?_; (case hd => rfl); (case hg => rfl); (case hr => first | (go_simp; done) | (go_simp; rfl)); intro gb101 hg w4 hbox hb; have n0_ := Aside0.mk (below_step (by repeat (first | (with_reducible first | exact HB.out | apply below_alloc | apply pw_below_drewN | apply below_drew1) | exact HB.out)) hb); have n1_ := Aside0.mk (hbox); have n2_ := Aside0.mk ((by rw [hg]; exact (below_size (by repeat (first | (with_reducible first | exact HB.out | apply below_alloc | apply pw_below_drewN | apply below_drew1) | exact HB.out))) : w.heap.size ≤ gb101)); have n3_ := Aside0.mk ((by rw [hg]; exact (below_size (by repeat (first | (with_reducible first | exact HB.out | apply below_alloc | apply pw_below_drewN | apply below_drew1) | exact HB.out))) : w.heap.size ≤ gb101)); clear HB; have HB := n0_; have BK101 := n1_; have GW101 := n2_; have GE101 := n3_; clear n0_ n1_ n2_ n3_; clear hb hbox hg) | ((with_reducible refine gate_dst (N := 3) rfl ?_); refine box_event ?hg (N := 3) ?hd (cs := #[.int .i8 0, .int .i8 0, .int .i8 0, .int .i8 0, .int .i64 0]) (t := 40) ?hr ?_; (case hd => rfl); (case hg => rfl); (case hr => first | (go_simp; done) | (go_simp; rfl)); intro gb102 hg w5 hbox hb; have n0_ := Aside0.mk (blk_below (g := gb101) (o := .cells #[.int .i8 0, .int .i8 0, .int .i8 0, .int .i8 0, .int .i64 0] 40 (0, 0)) (by (with_reducible repeat (first | refine blk_drewN ?_ _ | refine blk_drew ?_ | refine blk_alloc ?_ _)); exact BK101.out) hb); have n1_ := Aside0.mk (below_step (by repeat (first | (with_reducible first | exact HB.out | apply below_alloc | apply pw_below_drewN | apply below_drew1 | refine below_set ?_ GE101.out) | exact HB.out)) hb); have n2_ := Aside0.mk (hbox); have n3_ := Aside0.mk ((by rw [hg]; exact (below_size (by repeat (first | (with_reducible first | exact HB.out | apply below_alloc | apply pw_below_drewN | apply below_drew1 | refine below_set ?_ GE101.out) | exact HB.out))) : w.heap.size ≤ gb102)); have n4_ := Aside0.mk ((by rw [hg]; exact (below_size (by repeat (first | (with_reducible first | exact HB.out | apply below_alloc | apply pw_below_drewN | apply below_drew1 | refine below_set ?_ GE101.out) | exact HB.out))) : w.heap.size ≤ gb102)); have n5_ := Aside0.mk ((by rw [hg]; exact Nat.ne_of_lt (blk_lt (g := gb101) (o := .cells #[.int .i8 0, .int .i8 0, .int .i8 0, .int .i8 0, .int .i64 0] 40 (0, 0)) (by (with_reducible repeat (first | refine blk_drewN ?_ _ | refine blk_drew ?_ | refine blk_alloc ?_ _)); exact BK101.out)) : gb101 ≠ gb102)); have n6_ := Aside0.mk ((by rw [hg]; exact Nat.ne_of_gt (blk_lt (g := gb101) (o := .cells #[.int .i8 0, .int .i8 0, .int .i8 0, .int .i8 0, .int .i64 0] 40 (0, 0)) (by (with_reducible repeat (first | refine blk_drewN ?_ _ | refine blk_drew ?_ | refine blk_alloc ?_ _)); exact BK101.out)) : gb102 ≠ gb101)); clear BK101; clear HB; have BK101 := n0_; have HB := n1_; have BK102 := n2_; have GW102 := n3_; have GE102 := n4_; have NB101_102 := n5_; have NB102_101 := n6_; clear n0_ n1_ n2_ n3_ n4_ n5_ n6_; clear hb hbox hg; have hnb6 := NB102_101.out; have hnc6 := NB101_102.out; have hcz7_0 : w5.cell? ⟨gb102, 0, none⟩ = some (.int .i8 0) := (blk_cell BK102.out 0).trans rfl; have hcz7_1 : w5.cell? ⟨gb102, 1, none⟩ = some (.int .i8 0) := (blk_cell BK102.out 1).trans rfl; have hcz7_2 : w5.cell? ⟨gb102, 2, none⟩ = some (.int .i8 0) := (blk_cell BK102.out 2).trans rfl; have hcz7_3 : w5.cell? ⟨gb102, 3, none⟩ = some (.int .i8 0) := (blk_cell BK102.out 3).trans rfl; have hcz7_4 : w5.cell? ⟨gb102, 4, none⟩ = some (.int .i64 0) := (blk_cell BK102.out 4).trans rfl; have hfz7_0 := blk_frozen BK102.out 0; have hfz7_1 := blk_frozen BK102.out 1; have hfz7_2 := blk_frozen BK102.out 2; have hfz7_3 := blk_frozen BK102.out 3; have hfz7_4 := blk_frozen BK102.out 4) | ((with_reducible refine gate_callee (f := 21) rfl ?_); refine goesL_ (some 28) rfl rfl Try.func21 (by kernel_rfl) rfl #[.int .i8 (IntKind.i8.wrap (a0 / 134217728))] rfl (by (try simp only [List.map_toArray, List.map_cons, List.map_nil]); first | done | rfl | (simp only [List.length_drop, List.length_take]; rfl)) ?_; (with_reducible refine (isa_has.calls (IntKind.i8.wrap (a0 / 134217728)) t103 _ A2.out).mono ?_); rintro e w8 ⟨rfl, hb⟩; refine ⟨_, rfl, ?_⟩; have n0_ := Aside0.mk (blk_below (g := gb101) (o := .cells #[.int .i8 0, .int .i8 0, .int .i8 0, .int .i8 0, .int .i64 0] 40 (0, 0)) (by (with_reducible repeat (first | refine blk_drewN ?_ _ | refine blk_drew ?_ | refine blk_alloc ?_ _)); refine blk_far ?_ NB101_102.out _; (with_reducible repeat (first | refine blk_drewN ?_ _ | refine blk_drew ?_ | refine blk_alloc ?_ _)); refine blk_far ?_ NB101_102.out _; (with_reducible repeat (first | refine blk_drewN ?_ _ | refine blk_drew ?_ | refine blk_alloc ?_ _)); refine blk_far ?_ NB101_102.out _; (with_reducible repeat (first | refine blk_drewN ?_ _ | refine blk_drew ?_ | refine blk_alloc ?_ _)); refine blk_far ?_ NB101_102.out _; (with_reducible repeat (first | refine blk_drewN ?_ _ | refine blk_drew ?_ | refine blk_alloc ?_ _)); refine blk_far ?_ NB101_102.out _; (with_reducible repeat (first | refine blk_drewN ?_ _ | refine blk_drew ?_ | refine blk_alloc ?_ _)); exact BK101.out) hb); have n1_ := Aside0.mk (blk_below (g := gb102) (o := .cells #[.int .i8 (IntKind.i8.wrap (a0 / 134217728)), .int .i8 (IntKind.i8.wrap (Go.bits .and .u32 (a0 / 8388608) 15)), .int .i8 (IntKind.i8.wrap (Go.bits .and .u32 (a0 / 524288) 15)), .int .i8 (IntKind.i8.wrap (Go.bits .and .u32 (a0 / 32768) 15)), .int .i64 (wrap64 (Go.bits .and .u32 a0 32767))] 40 (0, 0)) (by (with_reducible repeat (first | refine blk_drewN ?_ _ | refine blk_drew ?_ | refine blk_alloc ?_ _)); refine blk_put (cs := #[.int .i8 (IntKind.i8.wrap (a0 / 134217728)), .int .i8 (IntKind.i8.wrap (Go.bits .and .u32 (a0 / 8388608) 15)), .int .i8 (IntKind.i8.wrap (Go.bits .and .u32 (a0 / 524288) 15)), .int .i8 (IntKind.i8.wrap (Go.bits .and .u32 (a0 / 32768) 15)), .int .i64 0]) ?_ 4 _ rfl; (with_reducible repeat (first | refine blk_drewN ?_ _ | refine blk_drew ?_ | refine blk_alloc ?_ _)); refine blk_put (cs := #[.int .i8 (IntKind.i8.wrap (a0 / 134217728)), .int .i8 (IntKind.i8.wrap (Go.bits .and .u32 (a0 / 8388608) 15)), .int .i8 (IntKind.i8.wrap (Go.bits .and .u32 (a0 / 524288) 15)), .int .i8 0, .int .i64 0]) ?_ 3 _ rfl; (with_reducible repeat (first | refine blk_drewN ?_ _ | refine blk_drew ?_ | refine blk_alloc ?_ _)); refine blk_put (cs := #[.int .i8 (IntKind.i8.wrap (a0 / 134217728)), .int .i8 (IntKind.i8.wrap (Go.bits .and .u32 (a0 / 8388608) 15)), .int .i8 0, .int .i8 0, .int .i64 0]) ?_ 2 _ rfl; (with_reducible repeat (first | refine blk_drewN ?_ _ | refine blk_drew ?_ | refine blk_alloc ?_ _)); refine blk_put (cs := #[.int .i8 (IntKind.i8.wrap (a0 / 134217728)), .int .i8 0, .int .i8 0, .int .i8 0, .int .i64 0]) ?_ 1 _ rfl; (with_reducible repeat (first | refine blk_drewN ?_ _ | refine blk_drew ?_ | refine blk_alloc ?_ _)); refine blk_put (cs := #[.int .i8 0, .int .i8 0, .int .i8 0, .int .i8 0, .int .i64 0]) ?_ 0 _ rfl; (with_reducible repeat (first | refine blk_drewN ?_ _ | refine blk_drew ?_ | refine blk_alloc ?_ _)); exact BK102.out) hb); have n2_ := Aside0.mk (below_step (by repeat (first | (with_reducible first | exact HB.out | apply below_alloc | apply pw_below_drewN | apply below_drew1 | refine below_set ?_ GE101.out | refine below_set ?_ GE102.out) | exact HB.out)) hb); clear BK101; clear BK102; clear HB; have BK101 := n0_; have BK102 := n1_; have HB := n2_; clear n0_ n1_ n2_; (try clear hb); (try clear hb2); (try clear hk); (try clear hi)))
 (try simp only [Act.put, List.setIfInBounds_toArray, List.set_cons_zero, List.set_cons_succ])
 go_cut [41] (fun v41 wc => ∃ (kq : Nat) (x41_2 : Bool), v41 = .bool x41_2 ∧ Aside0 (isa_Decode.j0 kq a0 x41_2 (IntKind.i8.wrap (a0 / 134217728)) (IntKind.i8.wrap (Go.bits .and .u32 (a0 / 8388608) 15)) (IntKind.i8.wrap (Go.bits .and .u32 (a0 / 524288) 15)) (IntKind.i8.wrap (Go.bits .and .u32 (a0 / 32768) 15)) (wrap64 (Go.bits .and .u32 a0 32767)) = some (r1, r2, r3, r4, r5)) ∧ Aside0 (kq ≤ k) ∧ Aside0 (wc.heap[gb101]? = some (.cells #[.int .i8 0, .int .i8 0, .int .i8 0, .int .i8 0, .int .i64 0] 40 (0, 0))) ∧ Aside0 (wc.heap[gb102]? = some (.cells #[.int .i8 (IntKind.i8.wrap (a0 / 134217728)), .int .i8 (IntKind.i8.wrap (Go.bits .and .u32 (a0 / 8388608) 15)), .int .i8 (IntKind.i8.wrap (Go.bits .and .u32 (a0 / 524288) 15)), .int .i8 (IntKind.i8.wrap (Go.bits .and .u32 (a0 / 32768) 15)), .int .i64 (wrap64 (Go.bits .and .u32 a0 32767))] 40 (0, 0))) ∧ Aside0 (Below w.heap.size w wc))
 case first =>
  have H := HC3.out
  clear HC3
  by_cases c9 : (Go.bits .and .i64 t103 8) = 0
  ·rw [if_pos c9] at H
   have c9b0 : ((Go.bits .and .i64 t103 8) == 0) = true := beq_iff_eq.mpr c9
   have c9b1 : ((Go.bits .and .i64 t103 8) != 0) = false := bne_eq_false_iff_eq.mpr c9
   clear c9
   (first | rw [c9b0] | (simp only [i64_w, i32_w]; rw [c9b0]) | skip)
   have H' := Aside0.mk H
   clear H
   go_wp2
   go_meet
   case rel => exact ⟨_, (false), (by first | rfl | (simp; done) | (simp [*]; done)), H', ⟨by first | omega | exact Nat.le_refl _⟩, ⟨by (with_reducible repeat (first | refine blk_drewN ?_ _ | refine blk_drew ?_ | refine blk_alloc ?_ _)); exact BK101.out⟩, ⟨by (with_reducible repeat (first | refine blk_drewN ?_ _ | refine blk_drew ?_ | refine blk_alloc ?_ _)); exact BK102.out⟩, ⟨by repeat (first | (with_reducible first | exact HB.out | apply below_alloc | apply pw_below_drewN | apply below_drew1 | refine below_set ?_ GE101.out | refine below_set ?_ GE102.out) | exact HB.out)⟩⟩
  ·rw [if_neg c9] at H
   have c9b0 : ((Go.bits .and .i64 t103 8) == 0) = false := beq_eq_false_iff_ne.mpr c9
   have c9b1 : ((Go.bits .and .i64 t103 8) != 0) = true := bne_iff_ne.mpr c9
   (first | rw [c9b0] | (simp only [i64_w, i32_w]; rw [c9b0]) | skip)
   by_cases c10 : (Go.bits .and .i64 t103 16) = 0
   ·rw [if_pos c10] at H
    have c10b0 : ((Go.bits .and .i64 t103 16) == 0) = true := beq_iff_eq.mpr c10
    have c10b1 : ((Go.bits .and .i64 t103 16) != 0) = false := bne_eq_false_iff_eq.mpr c10
    clear c10
    have H' := Aside0.mk H
    clear H
    have hnb11 := NB102_101.out
    have hnc11 := NB101_102.out
    have hcz12_0 : w8.cell? ⟨gb102, 0, none⟩ = some (.int .i8 (IntKind.i8.wrap (a0 / 134217728))) := (blk_cell BK102.out 0).trans rfl
    have hcz12_1 : w8.cell? ⟨gb102, 1, none⟩ = some (.int .i8 (IntKind.i8.wrap (Go.bits .and .u32 (a0 / 8388608) 15))) := (blk_cell BK102.out 1).trans rfl
    have hcz12_2 : w8.cell? ⟨gb102, 2, none⟩ = some (.int .i8 (IntKind.i8.wrap (Go.bits .and .u32 (a0 / 524288) 15))) := (blk_cell BK102.out 2).trans rfl
    have hcz12_3 : w8.cell? ⟨gb102, 3, none⟩ = some (.int .i8 (IntKind.i8.wrap (Go.bits .and .u32 (a0 / 32768) 15))) := (blk_cell BK102.out 3).trans rfl
    have hcz12_4 : w8.cell? ⟨gb102, 4, none⟩ = some (.int .i64 (wrap64 (Go.bits .and .u32 a0 32767))) := (blk_cell BK102.out 4).trans rfl
    have hfz12_0 := blk_frozen BK102.out 0
    have hfz12_1 := blk_frozen BK102.out 1
    have hfz12_2 := blk_frozen BK102.out 2
    have hfz12_3 := blk_frozen BK102.out 3
    have hfz12_4 := blk_frozen BK102.out 4
    go_wp2
    go_meet
    case rel => exact ⟨_, (decide ((wrap64 (Go.bits .and .u32 a0 32767)) ≥ 16384)), (by first | rfl | (simp; done) | (simp [*]; done)), H', ⟨by first | omega | exact Nat.le_refl _⟩, ⟨by (with_reducible repeat (first | refine blk_drewN ?_ _ | refine blk_drew ?_ | refine blk_alloc ?_ _)); exact BK101.out⟩, ⟨by (with_reducible repeat (first | refine blk_drewN ?_ _ | refine blk_drew ?_ | refine blk_alloc ?_ _)); exact BK102.out⟩, ⟨by repeat (first | (with_reducible first | exact HB.out | apply below_alloc | apply pw_below_drewN | apply below_drew1 | refine below_set ?_ GE101.out | refine below_set ?_ GE102.out) | exact HB.out)⟩⟩
   ·rw [if_neg c10] at H
    have c10b0 : ((Go.bits .and .i64 t103 16) == 0) = false := beq_eq_false_iff_ne.mpr c10
    have c10b1 : ((Go.bits .and .i64 t103 16) != 0) = true := bne_iff_ne.mpr c10
    have H' := Aside0.mk H
    clear H
    go_wp2
    go_meet
    case rel => exact ⟨_, (false), (by first | rfl | (simp; done) | (simp [*]; done)), H', ⟨by first | omega | exact Nat.le_refl _⟩, ⟨by (with_reducible repeat (first | refine blk_drewN ?_ _ | refine blk_drew ?_ | refine blk_alloc ?_ _)); exact BK101.out⟩, ⟨by (with_reducible repeat (first | refine blk_drewN ?_ _ | refine blk_drew ?_ | refine blk_alloc ?_ _)); exact BK102.out⟩, ⟨by repeat (first | (with_reducible first | exact HB.out | apply below_alloc | apply pw_below_drewN | apply below_drew1 | refine below_set ?_ GE101.out | refine below_set ?_ GE102.out) | exact HB.out)⟩⟩
 case rest =>
  clear HC3
  try clear c1
  try clear c2
  try clear p2
  try clear c6
  try clear p6
  try clear c9
  try clear c9b0
  try clear c9b1
  try clear c10
  try clear c10b0
  try clear c10b1
  try clear c11
  try clear c12
  try clear hcz12_0
  try clear hcz12_1
  try clear hcz12_2
  try clear hcz12_3
  try clear hcz12_4
  try clear hcz7_0
  try clear hcz7_1
  try clear hcz7_2
  try clear hcz7_3
  try clear hcz7_4
  try clear hfz12_0
  try clear hfz12_1
  try clear hfz12_2
  try clear hfz12_3
  try clear hfz12_4
  try clear hfz7_0
  try clear hfz7_1
  try clear hfz7_2
  try clear hfz7_3
  try clear hfz7_4
  obtain ⟨kq, x41_2, rfl, HA, HJ2, BK101, BK102, HB⟩ := hcut
  cases kq with
  | zero => exact absurd HA.out (by simp [isa_Decode.j0])
  | succ kj2 =>
   have H := HA.out
   clear HA
   simp only [isa_Decode.j0] at H
   by_cases c13 : x41_2 = true
   ·subst c13
    have H1 : ((isa_Encode.f (IntKind.i8.wrap (a0 / 134217728)) (IntKind.i8.wrap (Go.bits .and .u32 (a0 / 8388608) 15)) (IntKind.i8.wrap (Go.bits .and .u32 (a0 / 524288) 15)) (IntKind.i8.wrap (Go.bits .and .u32 (a0 / 32768) 15)) (wrap64 ((wrap64 (Go.bits .and .u32 a0 32767)) - 32768))).bind fun bt104 => (if bt104.2 = 0 then (if bt104.1 = a0 then (some ((IntKind.i8.wrap (a0 / 134217728)), (IntKind.i8.wrap (Go.bits .and .u32 (a0 / 8388608) 15)), (IntKind.i8.wrap (Go.bits .and .u32 (a0 / 524288) 15)), (IntKind.i8.wrap (Go.bits .and .u32 (a0 / 32768) 15)), wrap64 ((wrap64 (Go.bits .and .u32 a0 32767)) - 32768))) else (some ((-1), 0, 0, 0, wrap64 (a0)))) else (some ((-1), 0, 0, 0, wrap64 (a0))))) = some (r1, r2, r3, r4, r5) := by rw [if_pos rfl] at H; exact H
    clear H
    have H := H1
    clear H1
    replace H := Option.bind_eq_some_iff.mp H
    obtain ⟨⟨t104, t105⟩, A140, H⟩ := H
    replace H : (if t105 = 0 then (if t104 = a0 then (some ((IntKind.i8.wrap (a0 / 134217728)), (IntKind.i8.wrap (Go.bits .and .u32 (a0 / 8388608) 15)), (IntKind.i8.wrap (Go.bits .and .u32 (a0 / 524288) 15)), (IntKind.i8.wrap (Go.bits .and .u32 (a0 / 32768) 15)), wrap64 ((wrap64 (Go.bits .and .u32 a0 32767)) - 32768))) else (some ((-1), 0, 0, 0, wrap64 (a0)))) else (some ((-1), 0, 0, 0, wrap64 (a0)))) = some (r1, r2, r3, r4, r5) := H
    have A14 := Aside0.mk A140
    clear A140
    by_cases c15 : t105 = 0
    ·rw [if_pos c15] at H
     have c15b0 : (t105 == 0) = true := beq_iff_eq.mpr c15
     have c15b1 : (t105 != 0) = false := bne_eq_false_iff_eq.mpr c15
     clear c15
     by_cases c16 : t104 = a0
     ·rw [if_pos c16] at H
      have c16b0 : (t104 == a0) = true := beq_iff_eq.mpr c16
      have c16b1 : (t104 != a0) = false := bne_eq_false_iff_eq.mpr c16
      clear c16
      simp only [Option.some.injEq, Prod.mk.injEq] at H
      obtain ⟨rfl, rfl, rfl, rfl, rfl⟩ := H
      have hnb17 := NB102_101.out
      have hnc17 := NB101_102.out
      have hcz18_0 : wc.cell? ⟨gb102, 0, none⟩ = some (.int .i8 (IntKind.i8.wrap (a0 / 134217728))) := (blk_cell BK102.out 0).trans rfl
      have hcz18_1 : wc.cell? ⟨gb102, 1, none⟩ = some (.int .i8 (IntKind.i8.wrap (Go.bits .and .u32 (a0 / 8388608) 15))) := (blk_cell BK102.out 1).trans rfl
      have hcz18_2 : wc.cell? ⟨gb102, 2, none⟩ = some (.int .i8 (IntKind.i8.wrap (Go.bits .and .u32 (a0 / 524288) 15))) := (blk_cell BK102.out 2).trans rfl
      have hcz18_3 : wc.cell? ⟨gb102, 3, none⟩ = some (.int .i8 (IntKind.i8.wrap (Go.bits .and .u32 (a0 / 32768) 15))) := (blk_cell BK102.out 3).trans rfl
      have hcz18_4 : wc.cell? ⟨gb102, 4, none⟩ = some (.int .i64 (wrap64 (Go.bits .and .u32 a0 32767))) := (blk_cell BK102.out 4).trans rfl
      have hfz18_0 := blk_frozen BK102.out 0
      have hfz18_1 := blk_frozen BK102.out 1
      have hfz18_2 := blk_frozen BK102.out 2
      have hfz18_3 := blk_frozen BK102.out 3
      have hfz18_4 := blk_frozen BK102.out 4
      go_wp2_with (first | ((with_reducible refine gate_callee (f := 22) rfl ?_); refine goesL_ (some 48) rfl rfl Try.func22 (by kernel_rfl) rfl #[.agg #[.int .i8 (IntKind.i8.wrap (a0 / 134217728)), .int .i8 (IntKind.i8.wrap (Go.bits .and .u32 (a0 / 8388608) 15)), .int .i8 (IntKind.i8.wrap (Go.bits .and .u32 (a0 / 524288) 15)), .int .i8 (IntKind.i8.wrap (Go.bits .and .u32 (a0 / 32768) 15)), .int .i64 (wrap64 ((wrap64 (Go.bits .and .u32 a0 32767)) - 32768))]] rfl (by (try simp only [List.map_toArray, List.map_cons, List.map_nil]); first | done | rfl | (simp only [List.length_drop, List.length_take]; rfl)) ?_; (with_reducible refine (isa_Encode.calls (IntKind.i8.wrap (a0 / 134217728)) (IntKind.i8.wrap (Go.bits .and .u32 (a0 / 8388608) 15)) (IntKind.i8.wrap (Go.bits .and .u32 (a0 / 524288) 15)) (IntKind.i8.wrap (Go.bits .and .u32 (a0 / 32768) 15)) (wrap64 ((wrap64 (Go.bits .and .u32 a0 32767)) - 32768)) t104 t105 _ A14.out).mono ?_); rintro e w19 ⟨rfl, hb⟩; refine ⟨_, rfl, ?_⟩; have n0_ := Aside0.mk (blk_below (g := gb101) (o := .cells #[.int .i8 0, .int .i8 0, .int .i8 0, .int .i8 0, .int .i64 0] 40 (0, 0)) (by (with_reducible repeat (first | refine blk_drewN ?_ _ | refine blk_drew ?_ | refine blk_alloc ?_ _)); refine blk_far ?_ NB101_102.out _; (with_reducible repeat (first | refine blk_drewN ?_ _ | refine blk_drew ?_ | refine blk_alloc ?_ _)); exact BK101.out) hb); have n1_ := Aside0.mk (blk_below (g := gb102) (o := .cells #[.int .i8 (IntKind.i8.wrap (a0 / 134217728)), .int .i8 (IntKind.i8.wrap (Go.bits .and .u32 (a0 / 8388608) 15)), .int .i8 (IntKind.i8.wrap (Go.bits .and .u32 (a0 / 524288) 15)), .int .i8 (IntKind.i8.wrap (Go.bits .and .u32 (a0 / 32768) 15)), .int .i64 (wrap64 ((wrap64 (Go.bits .and .u32 a0 32767)) - 32768))] 40 (0, 0)) (by (with_reducible repeat (first | refine blk_drewN ?_ _ | refine blk_drew ?_ | refine blk_alloc ?_ _)); refine blk_put (cs := #[.int .i8 (IntKind.i8.wrap (a0 / 134217728)), .int .i8 (IntKind.i8.wrap (Go.bits .and .u32 (a0 / 8388608) 15)), .int .i8 (IntKind.i8.wrap (Go.bits .and .u32 (a0 / 524288) 15)), .int .i8 (IntKind.i8.wrap (Go.bits .and .u32 (a0 / 32768) 15)), .int .i64 (wrap64 (Go.bits .and .u32 a0 32767))]) ?_ 4 _ rfl; (with_reducible repeat (first | refine blk_drewN ?_ _ | refine blk_drew ?_ | refine blk_alloc ?_ _)); exact BK102.out) hb); have n2_ := Aside0.mk (below_step (by repeat (first | (with_reducible first | exact HB.out | apply below_alloc | apply pw_below_drewN | apply below_drew1 | refine below_set ?_ GE101.out | refine below_set ?_ GE102.out) | exact HB.out)) hb); clear BK101; clear BK102; clear HB; have BK101 := n0_; have BK102 := n1_; have HB := n2_; clear n0_ n1_ n2_; (try clear hb); (try clear hb2); (try clear hk); (try clear hi); have hcz20_0 : w19.cell? ⟨gb102, 0, none⟩ = some (.int .i8 (IntKind.i8.wrap (a0 / 134217728))) := (blk_cell BK102.out 0).trans rfl; have hcz20_1 : w19.cell? ⟨gb102, 1, none⟩ = some (.int .i8 (IntKind.i8.wrap (Go.bits .and .u32 (a0 / 8388608) 15))) := (blk_cell BK102.out 1).trans rfl; have hcz20_2 : w19.cell? ⟨gb102, 2, none⟩ = some (.int .i8 (IntKind.i8.wrap (Go.bits .and .u32 (a0 / 524288) 15))) := (blk_cell BK102.out 2).trans rfl; have hcz20_3 : w19.cell? ⟨gb102, 3, none⟩ = some (.int .i8 (IntKind.i8.wrap (Go.bits .and .u32 (a0 / 32768) 15))) := (blk_cell BK102.out 3).trans rfl; have hcz20_4 : w19.cell? ⟨gb102, 4, none⟩ = some (.int .i64 (wrap64 ((wrap64 (Go.bits .and .u32 a0 32767)) - 32768))) := (blk_cell BK102.out 4).trans rfl; have hfz20_0 := blk_frozen BK102.out 0; have hfz20_1 := blk_frozen BK102.out 1; have hfz20_2 := blk_frozen BK102.out 2; have hfz20_3 := blk_frozen BK102.out 3; have hfz20_4 := blk_frozen BK102.out 4; have hcz21_0 : w19.cell? ⟨gb101, 0, none⟩ = some (.int .i8 0) := (blk_cell BK101.out 0).trans rfl; have hcz21_1 : w19.cell? ⟨gb101, 1, none⟩ = some (.int .i8 0) := (blk_cell BK101.out 1).trans rfl; have hcz21_2 : w19.cell? ⟨gb101, 2, none⟩ = some (.int .i8 0) := (blk_cell BK101.out 2).trans rfl; have hcz21_3 : w19.cell? ⟨gb101, 3, none⟩ = some (.int .i8 0) := (blk_cell BK101.out 3).trans rfl; have hcz21_4 : w19.cell? ⟨gb101, 4, none⟩ = some (.int .i64 0) := (blk_cell BK101.out 4).trans rfl; have hfz21_0 := blk_frozen BK101.out 0; have hfz21_1 := blk_frozen BK101.out 1; have hfz21_2 := blk_frozen BK101.out 2; have hfz21_3 := blk_frozen BK101.out 3; have hfz21_4 := blk_frozen BK101.out 4))
      refine bodyPost_ret (results_cell_row rfl _ _ gb101 40 #[.int .i8 (IntKind.i8.wrap (a0 / 134217728)), .int .i8 (IntKind.i8.wrap (Go.bits .and .u32 (a0 / 8388608) 15)), .int .i8 (IntKind.i8.wrap (Go.bits .and .u32 (a0 / 524288) 15)), .int .i8 (IntKind.i8.wrap (Go.bits .and .u32 (a0 / 32768) 15)), .int .i64 (wrap64 ((wrap64 (Go.bits .and .u32 a0 32767)) - 32768))] (0, 0) _ rfl (by (with_reducible repeat (first | refine blk_drewN ?_ _ | refine blk_drew ?_ | refine blk_alloc ?_ _)); refine blk_put (cs := #[.int .i8 (IntKind.i8.wrap (a0 / 134217728)), .int .i8 (IntKind.i8.wrap (Go.bits .and .u32 (a0 / 8388608) 15)), .int .i8 (IntKind.i8.wrap (Go.bits .and .u32 (a0 / 524288) 15)), .int .i8 (IntKind.i8.wrap (Go.bits .and .u32 (a0 / 32768) 15)), .int .i64 0]) ?_ 4 _ rfl; (with_reducible repeat (first | refine blk_drewN ?_ _ | refine blk_drew ?_ | refine blk_alloc ?_ _)); refine blk_put (cs := #[.int .i8 (IntKind.i8.wrap (a0 / 134217728)), .int .i8 (IntKind.i8.wrap (Go.bits .and .u32 (a0 / 8388608) 15)), .int .i8 (IntKind.i8.wrap (Go.bits .and .u32 (a0 / 524288) 15)), .int .i8 0, .int .i64 0]) ?_ 3 _ rfl; (with_reducible repeat (first | refine blk_drewN ?_ _ | refine blk_drew ?_ | refine blk_alloc ?_ _)); refine blk_put (cs := #[.int .i8 (IntKind.i8.wrap (a0 / 134217728)), .int .i8 (IntKind.i8.wrap (Go.bits .and .u32 (a0 / 8388608) 15)), .int .i8 0, .int .i8 0, .int .i64 0]) ?_ 2 _ rfl; (with_reducible repeat (first | refine blk_drewN ?_ _ | refine blk_drew ?_ | refine blk_alloc ?_ _)); refine blk_put (cs := #[.int .i8 (IntKind.i8.wrap (a0 / 134217728)), .int .i8 0, .int .i8 0, .int .i8 0, .int .i64 0]) ?_ 1 _ rfl; (with_reducible repeat (first | refine blk_drewN ?_ _ | refine blk_drew ?_ | refine blk_alloc ?_ _)); refine blk_put (cs := #[.int .i8 0, .int .i8 0, .int .i8 0, .int .i8 0, .int .i64 0]) ?_ 0 _ rfl; (with_reducible repeat (first | refine blk_drewN ?_ _ | refine blk_drew ?_ | refine blk_alloc ?_ _)); exact BK101.out) Try.underlying40 rfl (by kernel_rfl)) rfl ?_
      exact ⟨by first | rfl | (simp [errW_none, errW_some] <;> rfl) | (simp [*, errW_none, errW_some] <;> rfl), by repeat (first | (with_reducible first | exact HB.out | apply below_alloc | apply pw_below_drewN | apply below_drew1 | refine below_set ?_ GE101.out | refine below_set ?_ GE102.out) | exact HB.out)⟩
     ·rw [if_neg c16] at H
      have c16b0 : (t104 == a0) = false := beq_eq_false_iff_ne.mpr c16
      have c16b1 : (t104 != a0) = true := bne_iff_ne.mpr c16
      simp only [Option.some.injEq, Prod.mk.injEq] at H
      obtain ⟨rfl, rfl, rfl, rfl, rfl⟩ := H
      have hnb22 := NB102_101.out
      have hnc22 := NB101_102.out
      have hcz23_0 : wc.cell? ⟨gb102, 0, none⟩ = some (.int .i8 (IntKind.i8.wrap (a0 / 134217728))) := (blk_cell BK102.out 0).trans rfl
      have hcz23_1 : wc.cell? ⟨gb102, 1, none⟩ = some (.int .i8 (IntKind.i8.wrap (Go.bits .and .u32 (a0 / 8388608) 15))) := (blk_cell BK102.out 1).trans rfl
      have hcz23_2 : wc.cell? ⟨gb102, 2, none⟩ = some (.int .i8 (IntKind.i8.wrap (Go.bits .and .u32 (a0 / 524288) 15))) := (blk_cell BK102.out 2).trans rfl
      have hcz23_3 : wc.cell? ⟨gb102, 3, none⟩ = some (.int .i8 (IntKind.i8.wrap (Go.bits .and .u32 (a0 / 32768) 15))) := (blk_cell BK102.out 3).trans rfl
      have hcz23_4 : wc.cell? ⟨gb102, 4, none⟩ = some (.int .i64 (wrap64 (Go.bits .and .u32 a0 32767))) := (blk_cell BK102.out 4).trans rfl
      have hfz23_0 := blk_frozen BK102.out 0
      have hfz23_1 := blk_frozen BK102.out 1
      have hfz23_2 := blk_frozen BK102.out 2
      have hfz23_3 := blk_frozen BK102.out 3
      have hfz23_4 := blk_frozen BK102.out 4
      go_wp2_with (first | ((with_reducible refine gate_callee (f := 22) rfl ?_); refine goesL_ (some 48) rfl rfl Try.func22 (by kernel_rfl) rfl #[.agg #[.int .i8 (IntKind.i8.wrap (a0 / 134217728)), .int .i8 (IntKind.i8.wrap (Go.bits .and .u32 (a0 / 8388608) 15)), .int .i8 (IntKind.i8.wrap (Go.bits .and .u32 (a0 / 524288) 15)), .int .i8 (IntKind.i8.wrap (Go.bits .and .u32 (a0 / 32768) 15)), .int .i64 (wrap64 ((wrap64 (Go.bits .and .u32 a0 32767)) - 32768))]] rfl (by (try simp only [List.map_toArray, List.map_cons, List.map_nil]); first | done | rfl | (simp only [List.length_drop, List.length_take]; rfl)) ?_; (with_reducible refine (isa_Encode.calls (IntKind.i8.wrap (a0 / 134217728)) (IntKind.i8.wrap (Go.bits .and .u32 (a0 / 8388608) 15)) (IntKind.i8.wrap (Go.bits .and .u32 (a0 / 524288) 15)) (IntKind.i8.wrap (Go.bits .and .u32 (a0 / 32768) 15)) (wrap64 ((wrap64 (Go.bits .and .u32 a0 32767)) - 32768)) t104 t105 _ A14.out).mono ?_); rintro e w24 ⟨rfl, hb⟩; refine ⟨_, rfl, ?_⟩; have n0_ := Aside0.mk (blk_below (g := gb101) (o := .cells #[.int .i8 0, .int .i8 0, .int .i8 0, .int .i8 0, .int .i64 0] 40 (0, 0)) (by (with_reducible repeat (first | refine blk_drewN ?_ _ | refine blk_drew ?_ | refine blk_alloc ?_ _)); refine blk_far ?_ NB101_102.out _; (with_reducible repeat (first | refine blk_drewN ?_ _ | refine blk_drew ?_ | refine blk_alloc ?_ _)); exact BK101.out) hb); have n1_ := Aside0.mk (blk_below (g := gb102) (o := .cells #[.int .i8 (IntKind.i8.wrap (a0 / 134217728)), .int .i8 (IntKind.i8.wrap (Go.bits .and .u32 (a0 / 8388608) 15)), .int .i8 (IntKind.i8.wrap (Go.bits .and .u32 (a0 / 524288) 15)), .int .i8 (IntKind.i8.wrap (Go.bits .and .u32 (a0 / 32768) 15)), .int .i64 (wrap64 ((wrap64 (Go.bits .and .u32 a0 32767)) - 32768))] 40 (0, 0)) (by (with_reducible repeat (first | refine blk_drewN ?_ _ | refine blk_drew ?_ | refine blk_alloc ?_ _)); refine blk_put (cs := #[.int .i8 (IntKind.i8.wrap (a0 / 134217728)), .int .i8 (IntKind.i8.wrap (Go.bits .and .u32 (a0 / 8388608) 15)), .int .i8 (IntKind.i8.wrap (Go.bits .and .u32 (a0 / 524288) 15)), .int .i8 (IntKind.i8.wrap (Go.bits .and .u32 (a0 / 32768) 15)), .int .i64 (wrap64 (Go.bits .and .u32 a0 32767))]) ?_ 4 _ rfl; (with_reducible repeat (first | refine blk_drewN ?_ _ | refine blk_drew ?_ | refine blk_alloc ?_ _)); exact BK102.out) hb); have n2_ := Aside0.mk (below_step (by repeat (first | (with_reducible first | exact HB.out | apply below_alloc | apply pw_below_drewN | apply below_drew1 | refine below_set ?_ GE101.out | refine below_set ?_ GE102.out) | exact HB.out)) hb); clear BK101; clear BK102; clear HB; have BK101 := n0_; have BK102 := n1_; have HB := n2_; clear n0_ n1_ n2_; (try clear hb); (try clear hb2); (try clear hk); (try clear hi); have hcz25_0 : w24.cell? ⟨gb101, 0, none⟩ = some (.int .i8 0) := (blk_cell BK101.out 0).trans rfl; have hcz25_1 : w24.cell? ⟨gb101, 1, none⟩ = some (.int .i8 0) := (blk_cell BK101.out 1).trans rfl; have hcz25_2 : w24.cell? ⟨gb101, 2, none⟩ = some (.int .i8 0) := (blk_cell BK101.out 2).trans rfl; have hcz25_3 : w24.cell? ⟨gb101, 3, none⟩ = some (.int .i8 0) := (blk_cell BK101.out 3).trans rfl; have hcz25_4 : w24.cell? ⟨gb101, 4, none⟩ = some (.int .i64 0) := (blk_cell BK101.out 4).trans rfl; have hfz25_0 := blk_frozen BK101.out 0; have hfz25_1 := blk_frozen BK101.out 1; have hfz25_2 := blk_frozen BK101.out 2; have hfz25_3 := blk_frozen BK101.out 3; have hfz25_4 := blk_frozen BK101.out 4))
      refine bodyPost_ret (results_cell_row rfl _ _ gb101 40 #[.int .i8 (-1), .int .i8 0, .int .i8 0, .int .i8 0, .int .i64 (wrap64 (a0))] (0, 0) _ rfl (by (with_reducible repeat (first | refine blk_drewN ?_ _ | refine blk_drew ?_ | refine blk_alloc ?_ _)); refine blk_put (cs := #[.int .i8 (-1), .int .i8 0, .int .i8 0, .int .i8 0, .int .i64 0]) ?_ 4 _ rfl; (with_reducible repeat (first | refine blk_drewN ?_ _ | refine blk_drew ?_ | refine blk_alloc ?_ _)); refine blk_put (cs := #[.int .i8 (-1), .int .i8 0, .int .i8 0, .int .i8 0, .int .i64 0]) ?_ 3 _ rfl; (with_reducible repeat (first | refine blk_drewN ?_ _ | refine blk_drew ?_ | refine blk_alloc ?_ _)); refine blk_put (cs := #[.int .i8 (-1), .int .i8 0, .int .i8 0, .int .i8 0, .int .i64 0]) ?_ 2 _ rfl; (with_reducible repeat (first | refine blk_drewN ?_ _ | refine blk_drew ?_ | refine blk_alloc ?_ _)); refine blk_put (cs := #[.int .i8 (-1), .int .i8 0, .int .i8 0, .int .i8 0, .int .i64 0]) ?_ 1 _ rfl; (with_reducible repeat (first | refine blk_drewN ?_ _ | refine blk_drew ?_ | refine blk_alloc ?_ _)); refine blk_put (cs := #[.int .i8 0, .int .i8 0, .int .i8 0, .int .i8 0, .int .i64 0]) ?_ 0 _ rfl; (with_reducible repeat (first | refine blk_drewN ?_ _ | refine blk_drew ?_ | refine blk_alloc ?_ _)); exact BK101.out) Try.underlying40 rfl (by kernel_rfl)) rfl ?_
      exact ⟨by first | rfl | (simp [errW_none, errW_some] <;> rfl) | (simp [*, errW_none, errW_some] <;> rfl), by repeat (first | (with_reducible first | exact HB.out | apply below_alloc | apply pw_below_drewN | apply below_drew1 | refine below_set ?_ GE101.out | refine below_set ?_ GE102.out) | exact HB.out)⟩
    ·rw [if_neg c15] at H
     have c15b0 : (t105 == 0) = false := beq_eq_false_iff_ne.mpr c15
     have c15b1 : (t105 != 0) = true := bne_iff_ne.mpr c15
     simp only [Option.some.injEq, Prod.mk.injEq] at H
     obtain ⟨rfl, rfl, rfl, rfl, rfl⟩ := H
     have hnb26 := NB102_101.out
     have hnc26 := NB101_102.out
     have hcz27_0 : wc.cell? ⟨gb102, 0, none⟩ = some (.int .i8 (IntKind.i8.wrap (a0 / 134217728))) := (blk_cell BK102.out 0).trans rfl
     have hcz27_1 : wc.cell? ⟨gb102, 1, none⟩ = some (.int .i8 (IntKind.i8.wrap (Go.bits .and .u32 (a0 / 8388608) 15))) := (blk_cell BK102.out 1).trans rfl
     have hcz27_2 : wc.cell? ⟨gb102, 2, none⟩ = some (.int .i8 (IntKind.i8.wrap (Go.bits .and .u32 (a0 / 524288) 15))) := (blk_cell BK102.out 2).trans rfl
     have hcz27_3 : wc.cell? ⟨gb102, 3, none⟩ = some (.int .i8 (IntKind.i8.wrap (Go.bits .and .u32 (a0 / 32768) 15))) := (blk_cell BK102.out 3).trans rfl
     have hcz27_4 : wc.cell? ⟨gb102, 4, none⟩ = some (.int .i64 (wrap64 (Go.bits .and .u32 a0 32767))) := (blk_cell BK102.out 4).trans rfl
     have hfz27_0 := blk_frozen BK102.out 0
     have hfz27_1 := blk_frozen BK102.out 1
     have hfz27_2 := blk_frozen BK102.out 2
     have hfz27_3 := blk_frozen BK102.out 3
     have hfz27_4 := blk_frozen BK102.out 4
     go_wp2_with (first | ((with_reducible refine gate_callee (f := 22) rfl ?_); refine goesL_ (some 48) rfl rfl Try.func22 (by kernel_rfl) rfl #[.agg #[.int .i8 (IntKind.i8.wrap (a0 / 134217728)), .int .i8 (IntKind.i8.wrap (Go.bits .and .u32 (a0 / 8388608) 15)), .int .i8 (IntKind.i8.wrap (Go.bits .and .u32 (a0 / 524288) 15)), .int .i8 (IntKind.i8.wrap (Go.bits .and .u32 (a0 / 32768) 15)), .int .i64 (wrap64 ((wrap64 (Go.bits .and .u32 a0 32767)) - 32768))]] rfl (by (try simp only [List.map_toArray, List.map_cons, List.map_nil]); first | done | rfl | (simp only [List.length_drop, List.length_take]; rfl)) ?_; (with_reducible refine (isa_Encode.calls (IntKind.i8.wrap (a0 / 134217728)) (IntKind.i8.wrap (Go.bits .and .u32 (a0 / 8388608) 15)) (IntKind.i8.wrap (Go.bits .and .u32 (a0 / 524288) 15)) (IntKind.i8.wrap (Go.bits .and .u32 (a0 / 32768) 15)) (wrap64 ((wrap64 (Go.bits .and .u32 a0 32767)) - 32768)) t104 t105 _ A14.out).mono ?_); rintro e w28 ⟨rfl, hb⟩; refine ⟨_, rfl, ?_⟩; have n0_ := Aside0.mk (blk_below (g := gb101) (o := .cells #[.int .i8 0, .int .i8 0, .int .i8 0, .int .i8 0, .int .i64 0] 40 (0, 0)) (by (with_reducible repeat (first | refine blk_drewN ?_ _ | refine blk_drew ?_ | refine blk_alloc ?_ _)); refine blk_far ?_ NB101_102.out _; (with_reducible repeat (first | refine blk_drewN ?_ _ | refine blk_drew ?_ | refine blk_alloc ?_ _)); exact BK101.out) hb); have n1_ := Aside0.mk (blk_below (g := gb102) (o := .cells #[.int .i8 (IntKind.i8.wrap (a0 / 134217728)), .int .i8 (IntKind.i8.wrap (Go.bits .and .u32 (a0 / 8388608) 15)), .int .i8 (IntKind.i8.wrap (Go.bits .and .u32 (a0 / 524288) 15)), .int .i8 (IntKind.i8.wrap (Go.bits .and .u32 (a0 / 32768) 15)), .int .i64 (wrap64 ((wrap64 (Go.bits .and .u32 a0 32767)) - 32768))] 40 (0, 0)) (by (with_reducible repeat (first | refine blk_drewN ?_ _ | refine blk_drew ?_ | refine blk_alloc ?_ _)); refine blk_put (cs := #[.int .i8 (IntKind.i8.wrap (a0 / 134217728)), .int .i8 (IntKind.i8.wrap (Go.bits .and .u32 (a0 / 8388608) 15)), .int .i8 (IntKind.i8.wrap (Go.bits .and .u32 (a0 / 524288) 15)), .int .i8 (IntKind.i8.wrap (Go.bits .and .u32 (a0 / 32768) 15)), .int .i64 (wrap64 (Go.bits .and .u32 a0 32767))]) ?_ 4 _ rfl; (with_reducible repeat (first | refine blk_drewN ?_ _ | refine blk_drew ?_ | refine blk_alloc ?_ _)); exact BK102.out) hb); have n2_ := Aside0.mk (below_step (by repeat (first | (with_reducible first | exact HB.out | apply below_alloc | apply pw_below_drewN | apply below_drew1 | refine below_set ?_ GE101.out | refine below_set ?_ GE102.out) | exact HB.out)) hb); clear BK101; clear BK102; clear HB; have BK101 := n0_; have BK102 := n1_; have HB := n2_; clear n0_ n1_ n2_; (try clear hb); (try clear hb2); (try clear hk); (try clear hi); have hcz29_0 : w28.cell? ⟨gb101, 0, none⟩ = some (.int .i8 0) := (blk_cell BK101.out 0).trans rfl; have hcz29_1 : w28.cell? ⟨gb101, 1, none⟩ = some (.int .i8 0) := (blk_cell BK101.out 1).trans rfl; have hcz29_2 : w28.cell? ⟨gb101, 2, none⟩ = some (.int .i8 0) := (blk_cell BK101.out 2).trans rfl; have hcz29_3 : w28.cell? ⟨gb101, 3, none⟩ = some (.int .i8 0) := (blk_cell BK101.out 3).trans rfl; have hcz29_4 : w28.cell? ⟨gb101, 4, none⟩ = some (.int .i64 0) := (blk_cell BK101.out 4).trans rfl; have hfz29_0 := blk_frozen BK101.out 0; have hfz29_1 := blk_frozen BK101.out 1; have hfz29_2 := blk_frozen BK101.out 2; have hfz29_3 := blk_frozen BK101.out 3; have hfz29_4 := blk_frozen BK101.out 4))
     refine bodyPost_ret (results_cell_row rfl _ _ gb101 40 #[.int .i8 (-1), .int .i8 0, .int .i8 0, .int .i8 0, .int .i64 (wrap64 (a0))] (0, 0) _ rfl (by (with_reducible repeat (first | refine blk_drewN ?_ _ | refine blk_drew ?_ | refine blk_alloc ?_ _)); refine blk_put (cs := #[.int .i8 (-1), .int .i8 0, .int .i8 0, .int .i8 0, .int .i64 0]) ?_ 4 _ rfl; (with_reducible repeat (first | refine blk_drewN ?_ _ | refine blk_drew ?_ | refine blk_alloc ?_ _)); refine blk_put (cs := #[.int .i8 (-1), .int .i8 0, .int .i8 0, .int .i8 0, .int .i64 0]) ?_ 3 _ rfl; (with_reducible repeat (first | refine blk_drewN ?_ _ | refine blk_drew ?_ | refine blk_alloc ?_ _)); refine blk_put (cs := #[.int .i8 (-1), .int .i8 0, .int .i8 0, .int .i8 0, .int .i64 0]) ?_ 2 _ rfl; (with_reducible repeat (first | refine blk_drewN ?_ _ | refine blk_drew ?_ | refine blk_alloc ?_ _)); refine blk_put (cs := #[.int .i8 (-1), .int .i8 0, .int .i8 0, .int .i8 0, .int .i64 0]) ?_ 1 _ rfl; (with_reducible repeat (first | refine blk_drewN ?_ _ | refine blk_drew ?_ | refine blk_alloc ?_ _)); refine blk_put (cs := #[.int .i8 0, .int .i8 0, .int .i8 0, .int .i8 0, .int .i64 0]) ?_ 0 _ rfl; (with_reducible repeat (first | refine blk_drewN ?_ _ | refine blk_drew ?_ | refine blk_alloc ?_ _)); exact BK101.out) Try.underlying40 rfl (by kernel_rfl)) rfl ?_
     exact ⟨by first | rfl | (simp [errW_none, errW_some] <;> rfl) | (simp [*, errW_none, errW_some] <;> rfl), by repeat (first | (with_reducible first | exact HB.out | apply below_alloc | apply pw_below_drewN | apply below_drew1 | refine below_set ?_ GE101.out | refine below_set ?_ GE102.out) | exact HB.out)⟩
   ·replace c13 := Bool.eq_false_iff.mpr c13
    subst c13
    have H1 : ((isa_Encode.f (IntKind.i8.wrap (a0 / 134217728)) (IntKind.i8.wrap (Go.bits .and .u32 (a0 / 8388608) 15)) (IntKind.i8.wrap (Go.bits .and .u32 (a0 / 524288) 15)) (IntKind.i8.wrap (Go.bits .and .u32 (a0 / 32768) 15)) (wrap64 (Go.bits .and .u32 a0 32767))).bind fun bt106 => (if bt106.2 = 0 then (if bt106.1 = a0 then (some ((IntKind.i8.wrap (a0 / 134217728)), (IntKind.i8.wrap (Go.bits .and .u32 (a0 / 8388608) 15)), (IntKind.i8.wrap (Go.bits .and .u32 (a0 / 524288) 15)), (IntKind.i8.wrap (Go.bits .and .u32 (a0 / 32768) 15)), (wrap64 (Go.bits .and .u32 a0 32767)))) else (some ((-1), 0, 0, 0, wrap64 (a0)))) else (some ((-1), 0, 0, 0, wrap64 (a0))))) = some (r1, r2, r3, r4, r5) := by rw [if_neg (show ¬ (false = true) by decide)] at H; exact H
    clear H
    have H := H1
    clear H1
    replace H := Option.bind_eq_some_iff.mp H
    obtain ⟨⟨t106, t107⟩, A300, H⟩ := H
    replace H : (if t107 = 0 then (if t106 = a0 then (some ((IntKind.i8.wrap (a0 / 134217728)), (IntKind.i8.wrap (Go.bits .and .u32 (a0 / 8388608) 15)), (IntKind.i8.wrap (Go.bits .and .u32 (a0 / 524288) 15)), (IntKind.i8.wrap (Go.bits .and .u32 (a0 / 32768) 15)), (wrap64 (Go.bits .and .u32 a0 32767)))) else (some ((-1), 0, 0, 0, wrap64 (a0)))) else (some ((-1), 0, 0, 0, wrap64 (a0)))) = some (r1, r2, r3, r4, r5) := H
    have A30 := Aside0.mk A300
    clear A300
    by_cases c31 : t107 = 0
    ·rw [if_pos c31] at H
     have c31b0 : (t107 == 0) = true := beq_iff_eq.mpr c31
     have c31b1 : (t107 != 0) = false := bne_eq_false_iff_eq.mpr c31
     clear c31
     by_cases c32 : t106 = a0
     ·rw [if_pos c32] at H
      have c32b0 : (t106 == a0) = true := beq_iff_eq.mpr c32
      have c32b1 : (t106 != a0) = false := bne_eq_false_iff_eq.mpr c32
      clear c32
      simp only [Option.some.injEq, Prod.mk.injEq] at H
      obtain ⟨rfl, rfl, rfl, rfl, rfl⟩ := H
      have hnb33 := NB102_101.out
      have hnc33 := NB101_102.out
      have hcz34_0 : wc.cell? ⟨gb102, 0, none⟩ = some (.int .i8 (IntKind.i8.wrap (a0 / 134217728))) := (blk_cell BK102.out 0).trans rfl
      have hcz34_1 : wc.cell? ⟨gb102, 1, none⟩ = some (.int .i8 (IntKind.i8.wrap (Go.bits .and .u32 (a0 / 8388608) 15))) := (blk_cell BK102.out 1).trans rfl
      have hcz34_2 : wc.cell? ⟨gb102, 2, none⟩ = some (.int .i8 (IntKind.i8.wrap (Go.bits .and .u32 (a0 / 524288) 15))) := (blk_cell BK102.out 2).trans rfl
      have hcz34_3 : wc.cell? ⟨gb102, 3, none⟩ = some (.int .i8 (IntKind.i8.wrap (Go.bits .and .u32 (a0 / 32768) 15))) := (blk_cell BK102.out 3).trans rfl
      have hcz34_4 : wc.cell? ⟨gb102, 4, none⟩ = some (.int .i64 (wrap64 (Go.bits .and .u32 a0 32767))) := (blk_cell BK102.out 4).trans rfl
      have hfz34_0 := blk_frozen BK102.out 0
      have hfz34_1 := blk_frozen BK102.out 1
      have hfz34_2 := blk_frozen BK102.out 2
      have hfz34_3 := blk_frozen BK102.out 3
      have hfz34_4 := blk_frozen BK102.out 4
      go_wp2_with (first | ((with_reducible refine gate_callee (f := 22) rfl ?_); refine goesL_ (some 48) rfl rfl Try.func22 (by kernel_rfl) rfl #[.agg #[.int .i8 (IntKind.i8.wrap (a0 / 134217728)), .int .i8 (IntKind.i8.wrap (Go.bits .and .u32 (a0 / 8388608) 15)), .int .i8 (IntKind.i8.wrap (Go.bits .and .u32 (a0 / 524288) 15)), .int .i8 (IntKind.i8.wrap (Go.bits .and .u32 (a0 / 32768) 15)), .int .i64 (wrap64 (Go.bits .and .u32 a0 32767))]] rfl (by (try simp only [List.map_toArray, List.map_cons, List.map_nil]); first | done | rfl | (simp only [List.length_drop, List.length_take]; rfl)) ?_; (with_reducible refine (isa_Encode.calls (IntKind.i8.wrap (a0 / 134217728)) (IntKind.i8.wrap (Go.bits .and .u32 (a0 / 8388608) 15)) (IntKind.i8.wrap (Go.bits .and .u32 (a0 / 524288) 15)) (IntKind.i8.wrap (Go.bits .and .u32 (a0 / 32768) 15)) (wrap64 (Go.bits .and .u32 a0 32767)) t106 t107 _ A30.out).mono ?_); rintro e w35 ⟨rfl, hb⟩; refine ⟨_, rfl, ?_⟩; have n0_ := Aside0.mk (blk_below (g := gb101) (o := .cells #[.int .i8 0, .int .i8 0, .int .i8 0, .int .i8 0, .int .i64 0] 40 (0, 0)) (by (with_reducible repeat (first | refine blk_drewN ?_ _ | refine blk_drew ?_ | refine blk_alloc ?_ _)); exact BK101.out) hb); have n1_ := Aside0.mk (blk_below (g := gb102) (o := .cells #[.int .i8 (IntKind.i8.wrap (a0 / 134217728)), .int .i8 (IntKind.i8.wrap (Go.bits .and .u32 (a0 / 8388608) 15)), .int .i8 (IntKind.i8.wrap (Go.bits .and .u32 (a0 / 524288) 15)), .int .i8 (IntKind.i8.wrap (Go.bits .and .u32 (a0 / 32768) 15)), .int .i64 (wrap64 (Go.bits .and .u32 a0 32767))] 40 (0, 0)) (by (with_reducible repeat (first | refine blk_drewN ?_ _ | refine blk_drew ?_ | refine blk_alloc ?_ _)); exact BK102.out) hb); have n2_ := Aside0.mk (below_step (by repeat (first | (with_reducible first | exact HB.out | apply below_alloc | apply pw_below_drewN | apply below_drew1 | refine below_set ?_ GE101.out | refine below_set ?_ GE102.out) | exact HB.out)) hb); clear BK101; clear BK102; clear HB; have BK101 := n0_; have BK102 := n1_; have HB := n2_; clear n0_ n1_ n2_; (try clear hb); (try clear hb2); (try clear hk); (try clear hi); have hcz36_0 : w35.cell? ⟨gb102, 0, none⟩ = some (.int .i8 (IntKind.i8.wrap (a0 / 134217728))) := (blk_cell BK102.out 0).trans rfl; have hcz36_1 : w35.cell? ⟨gb102, 1, none⟩ = some (.int .i8 (IntKind.i8.wrap (Go.bits .and .u32 (a0 / 8388608) 15))) := (blk_cell BK102.out 1).trans rfl; have hcz36_2 : w35.cell? ⟨gb102, 2, none⟩ = some (.int .i8 (IntKind.i8.wrap (Go.bits .and .u32 (a0 / 524288) 15))) := (blk_cell BK102.out 2).trans rfl; have hcz36_3 : w35.cell? ⟨gb102, 3, none⟩ = some (.int .i8 (IntKind.i8.wrap (Go.bits .and .u32 (a0 / 32768) 15))) := (blk_cell BK102.out 3).trans rfl; have hcz36_4 : w35.cell? ⟨gb102, 4, none⟩ = some (.int .i64 (wrap64 (Go.bits .and .u32 a0 32767))) := (blk_cell BK102.out 4).trans rfl; have hfz36_0 := blk_frozen BK102.out 0; have hfz36_1 := blk_frozen BK102.out 1; have hfz36_2 := blk_frozen BK102.out 2; have hfz36_3 := blk_frozen BK102.out 3; have hfz36_4 := blk_frozen BK102.out 4; have hcz37_0 : w35.cell? ⟨gb101, 0, none⟩ = some (.int .i8 0) := (blk_cell BK101.out 0).trans rfl; have hcz37_1 : w35.cell? ⟨gb101, 1, none⟩ = some (.int .i8 0) := (blk_cell BK101.out 1).trans rfl; have hcz37_2 : w35.cell? ⟨gb101, 2, none⟩ = some (.int .i8 0) := (blk_cell BK101.out 2).trans rfl; have hcz37_3 : w35.cell? ⟨gb101, 3, none⟩ = some (.int .i8 0) := (blk_cell BK101.out 3).trans rfl; have hcz37_4 : w35.cell? ⟨gb101, 4, none⟩ = some (.int .i64 0) := (blk_cell BK101.out 4).trans rfl; have hfz37_0 := blk_frozen BK101.out 0; have hfz37_1 := blk_frozen BK101.out 1; have hfz37_2 := blk_frozen BK101.out 2; have hfz37_3 := blk_frozen BK101.out 3; have hfz37_4 := blk_frozen BK101.out 4))
      refine bodyPost_ret (results_cell_row rfl _ _ gb101 40 #[.int .i8 (IntKind.i8.wrap (a0 / 134217728)), .int .i8 (IntKind.i8.wrap (Go.bits .and .u32 (a0 / 8388608) 15)), .int .i8 (IntKind.i8.wrap (Go.bits .and .u32 (a0 / 524288) 15)), .int .i8 (IntKind.i8.wrap (Go.bits .and .u32 (a0 / 32768) 15)), .int .i64 (wrap64 (Go.bits .and .u32 a0 32767))] (0, 0) _ rfl (by (with_reducible repeat (first | refine blk_drewN ?_ _ | refine blk_drew ?_ | refine blk_alloc ?_ _)); refine blk_put (cs := #[.int .i8 (IntKind.i8.wrap (a0 / 134217728)), .int .i8 (IntKind.i8.wrap (Go.bits .and .u32 (a0 / 8388608) 15)), .int .i8 (IntKind.i8.wrap (Go.bits .and .u32 (a0 / 524288) 15)), .int .i8 (IntKind.i8.wrap (Go.bits .and .u32 (a0 / 32768) 15)), .int .i64 0]) ?_ 4 _ rfl; (with_reducible repeat (first | refine blk_drewN ?_ _ | refine blk_drew ?_ | refine blk_alloc ?_ _)); refine blk_put (cs := #[.int .i8 (IntKind.i8.wrap (a0 / 134217728)), .int .i8 (IntKind.i8.wrap (Go.bits .and .u32 (a0 / 8388608) 15)), .int .i8 (IntKind.i8.wrap (Go.bits .and .u32 (a0 / 524288) 15)), .int .i8 0, .int .i64 0]) ?_ 3 _ rfl; (with_reducible repeat (first | refine blk_drewN ?_ _ | refine blk_drew ?_ | refine blk_alloc ?_ _)); refine blk_put (cs := #[.int .i8 (IntKind.i8.wrap (a0 / 134217728)), .int .i8 (IntKind.i8.wrap (Go.bits .and .u32 (a0 / 8388608) 15)), .int .i8 0, .int .i8 0, .int .i64 0]) ?_ 2 _ rfl; (with_reducible repeat (first | refine blk_drewN ?_ _ | refine blk_drew ?_ | refine blk_alloc ?_ _)); refine blk_put (cs := #[.int .i8 (IntKind.i8.wrap (a0 / 134217728)), .int .i8 0, .int .i8 0, .int .i8 0, .int .i64 0]) ?_ 1 _ rfl; (with_reducible repeat (first | refine blk_drewN ?_ _ | refine blk_drew ?_ | refine blk_alloc ?_ _)); refine blk_put (cs := #[.int .i8 0, .int .i8 0, .int .i8 0, .int .i8 0, .int .i64 0]) ?_ 0 _ rfl; (with_reducible repeat (first | refine blk_drewN ?_ _ | refine blk_drew ?_ | refine blk_alloc ?_ _)); exact BK101.out) Try.underlying40 rfl (by kernel_rfl)) rfl ?_
      exact ⟨by first | rfl | (simp [errW_none, errW_some] <;> rfl) | (simp [*, errW_none, errW_some] <;> rfl), by repeat (first | (with_reducible first | exact HB.out | apply below_alloc | apply pw_below_drewN | apply below_drew1 | refine below_set ?_ GE101.out | refine below_set ?_ GE102.out) | exact HB.out)⟩
     ·rw [if_neg c32] at H
      have c32b0 : (t106 == a0) = false := beq_eq_false_iff_ne.mpr c32
      have c32b1 : (t106 != a0) = true := bne_iff_ne.mpr c32
      simp only [Option.some.injEq, Prod.mk.injEq] at H
      obtain ⟨rfl, rfl, rfl, rfl, rfl⟩ := H
      have hnb38 := NB102_101.out
      have hnc38 := NB101_102.out
      have hcz39_0 : wc.cell? ⟨gb102, 0, none⟩ = some (.int .i8 (IntKind.i8.wrap (a0 / 134217728))) := (blk_cell BK102.out 0).trans rfl
      have hcz39_1 : wc.cell? ⟨gb102, 1, none⟩ = some (.int .i8 (IntKind.i8.wrap (Go.bits .and .u32 (a0 / 8388608) 15))) := (blk_cell BK102.out 1).trans rfl
      have hcz39_2 : wc.cell? ⟨gb102, 2, none⟩ = some (.int .i8 (IntKind.i8.wrap (Go.bits .and .u32 (a0 / 524288) 15))) := (blk_cell BK102.out 2).trans rfl
      have hcz39_3 : wc.cell? ⟨gb102, 3, none⟩ = some (.int .i8 (IntKind.i8.wrap (Go.bits .and .u32 (a0 / 32768) 15))) := (blk_cell BK102.out 3).trans rfl
      have hcz39_4 : wc.cell? ⟨gb102, 4, none⟩ = some (.int .i64 (wrap64 (Go.bits .and .u32 a0 32767))) := (blk_cell BK102.out 4).trans rfl
      have hfz39_0 := blk_frozen BK102.out 0
      have hfz39_1 := blk_frozen BK102.out 1
      have hfz39_2 := blk_frozen BK102.out 2
      have hfz39_3 := blk_frozen BK102.out 3
      have hfz39_4 := blk_frozen BK102.out 4
      go_wp2_with (first | ((with_reducible refine gate_callee (f := 22) rfl ?_); refine goesL_ (some 48) rfl rfl Try.func22 (by kernel_rfl) rfl #[.agg #[.int .i8 (IntKind.i8.wrap (a0 / 134217728)), .int .i8 (IntKind.i8.wrap (Go.bits .and .u32 (a0 / 8388608) 15)), .int .i8 (IntKind.i8.wrap (Go.bits .and .u32 (a0 / 524288) 15)), .int .i8 (IntKind.i8.wrap (Go.bits .and .u32 (a0 / 32768) 15)), .int .i64 (wrap64 (Go.bits .and .u32 a0 32767))]] rfl (by (try simp only [List.map_toArray, List.map_cons, List.map_nil]); first | done | rfl | (simp only [List.length_drop, List.length_take]; rfl)) ?_; (with_reducible refine (isa_Encode.calls (IntKind.i8.wrap (a0 / 134217728)) (IntKind.i8.wrap (Go.bits .and .u32 (a0 / 8388608) 15)) (IntKind.i8.wrap (Go.bits .and .u32 (a0 / 524288) 15)) (IntKind.i8.wrap (Go.bits .and .u32 (a0 / 32768) 15)) (wrap64 (Go.bits .and .u32 a0 32767)) t106 t107 _ A30.out).mono ?_); rintro e w40 ⟨rfl, hb⟩; refine ⟨_, rfl, ?_⟩; have n0_ := Aside0.mk (blk_below (g := gb101) (o := .cells #[.int .i8 0, .int .i8 0, .int .i8 0, .int .i8 0, .int .i64 0] 40 (0, 0)) (by (with_reducible repeat (first | refine blk_drewN ?_ _ | refine blk_drew ?_ | refine blk_alloc ?_ _)); exact BK101.out) hb); have n1_ := Aside0.mk (blk_below (g := gb102) (o := .cells #[.int .i8 (IntKind.i8.wrap (a0 / 134217728)), .int .i8 (IntKind.i8.wrap (Go.bits .and .u32 (a0 / 8388608) 15)), .int .i8 (IntKind.i8.wrap (Go.bits .and .u32 (a0 / 524288) 15)), .int .i8 (IntKind.i8.wrap (Go.bits .and .u32 (a0 / 32768) 15)), .int .i64 (wrap64 (Go.bits .and .u32 a0 32767))] 40 (0, 0)) (by (with_reducible repeat (first | refine blk_drewN ?_ _ | refine blk_drew ?_ | refine blk_alloc ?_ _)); exact BK102.out) hb); have n2_ := Aside0.mk (below_step (by repeat (first | (with_reducible first | exact HB.out | apply below_alloc | apply pw_below_drewN | apply below_drew1 | refine below_set ?_ GE101.out | refine below_set ?_ GE102.out) | exact HB.out)) hb); clear BK101; clear BK102; clear HB; have BK101 := n0_; have BK102 := n1_; have HB := n2_; clear n0_ n1_ n2_; (try clear hb); (try clear hb2); (try clear hk); (try clear hi); have hcz41_0 : w40.cell? ⟨gb101, 0, none⟩ = some (.int .i8 0) := (blk_cell BK101.out 0).trans rfl; have hcz41_1 : w40.cell? ⟨gb101, 1, none⟩ = some (.int .i8 0) := (blk_cell BK101.out 1).trans rfl; have hcz41_2 : w40.cell? ⟨gb101, 2, none⟩ = some (.int .i8 0) := (blk_cell BK101.out 2).trans rfl; have hcz41_3 : w40.cell? ⟨gb101, 3, none⟩ = some (.int .i8 0) := (blk_cell BK101.out 3).trans rfl; have hcz41_4 : w40.cell? ⟨gb101, 4, none⟩ = some (.int .i64 0) := (blk_cell BK101.out 4).trans rfl; have hfz41_0 := blk_frozen BK101.out 0; have hfz41_1 := blk_frozen BK101.out 1; have hfz41_2 := blk_frozen BK101.out 2; have hfz41_3 := blk_frozen BK101.out 3; have hfz41_4 := blk_frozen BK101.out 4))
      refine bodyPost_ret (results_cell_row rfl _ _ gb101 40 #[.int .i8 (-1), .int .i8 0, .int .i8 0, .int .i8 0, .int .i64 (wrap64 (a0))] (0, 0) _ rfl (by (with_reducible repeat (first | refine blk_drewN ?_ _ | refine blk_drew ?_ | refine blk_alloc ?_ _)); refine blk_put (cs := #[.int .i8 (-1), .int .i8 0, .int .i8 0, .int .i8 0, .int .i64 0]) ?_ 4 _ rfl; (with_reducible repeat (first | refine blk_drewN ?_ _ | refine blk_drew ?_ | refine blk_alloc ?_ _)); refine blk_put (cs := #[.int .i8 (-1), .int .i8 0, .int .i8 0, .int .i8 0, .int .i64 0]) ?_ 3 _ rfl; (with_reducible repeat (first | refine blk_drewN ?_ _ | refine blk_drew ?_ | refine blk_alloc ?_ _)); refine blk_put (cs := #[.int .i8 (-1), .int .i8 0, .int .i8 0, .int .i8 0, .int .i64 0]) ?_ 2 _ rfl; (with_reducible repeat (first | refine blk_drewN ?_ _ | refine blk_drew ?_ | refine blk_alloc ?_ _)); refine blk_put (cs := #[.int .i8 (-1), .int .i8 0, .int .i8 0, .int .i8 0, .int .i64 0]) ?_ 1 _ rfl; (with_reducible repeat (first | refine blk_drewN ?_ _ | refine blk_drew ?_ | refine blk_alloc ?_ _)); refine blk_put (cs := #[.int .i8 0, .int .i8 0, .int .i8 0, .int .i8 0, .int .i64 0]) ?_ 0 _ rfl; (with_reducible repeat (first | refine blk_drewN ?_ _ | refine blk_drew ?_ | refine blk_alloc ?_ _)); exact BK101.out) Try.underlying40 rfl (by kernel_rfl)) rfl ?_
      exact ⟨by first | rfl | (simp [errW_none, errW_some] <;> rfl) | (simp [*, errW_none, errW_some] <;> rfl), by repeat (first | (with_reducible first | exact HB.out | apply below_alloc | apply pw_below_drewN | apply below_drew1 | refine below_set ?_ GE101.out | refine below_set ?_ GE102.out) | exact HB.out)⟩
    ·rw [if_neg c31] at H
     have c31b0 : (t107 == 0) = false := beq_eq_false_iff_ne.mpr c31
     have c31b1 : (t107 != 0) = true := bne_iff_ne.mpr c31
     simp only [Option.some.injEq, Prod.mk.injEq] at H
     obtain ⟨rfl, rfl, rfl, rfl, rfl⟩ := H
     have hnb42 := NB102_101.out
     have hnc42 := NB101_102.out
     have hcz43_0 : wc.cell? ⟨gb102, 0, none⟩ = some (.int .i8 (IntKind.i8.wrap (a0 / 134217728))) := (blk_cell BK102.out 0).trans rfl
     have hcz43_1 : wc.cell? ⟨gb102, 1, none⟩ = some (.int .i8 (IntKind.i8.wrap (Go.bits .and .u32 (a0 / 8388608) 15))) := (blk_cell BK102.out 1).trans rfl
     have hcz43_2 : wc.cell? ⟨gb102, 2, none⟩ = some (.int .i8 (IntKind.i8.wrap (Go.bits .and .u32 (a0 / 524288) 15))) := (blk_cell BK102.out 2).trans rfl
     have hcz43_3 : wc.cell? ⟨gb102, 3, none⟩ = some (.int .i8 (IntKind.i8.wrap (Go.bits .and .u32 (a0 / 32768) 15))) := (blk_cell BK102.out 3).trans rfl
     have hcz43_4 : wc.cell? ⟨gb102, 4, none⟩ = some (.int .i64 (wrap64 (Go.bits .and .u32 a0 32767))) := (blk_cell BK102.out 4).trans rfl
     have hfz43_0 := blk_frozen BK102.out 0
     have hfz43_1 := blk_frozen BK102.out 1
     have hfz43_2 := blk_frozen BK102.out 2
     have hfz43_3 := blk_frozen BK102.out 3
     have hfz43_4 := blk_frozen BK102.out 4
     go_wp2_with (first | ((with_reducible refine gate_callee (f := 22) rfl ?_); refine goesL_ (some 48) rfl rfl Try.func22 (by kernel_rfl) rfl #[.agg #[.int .i8 (IntKind.i8.wrap (a0 / 134217728)), .int .i8 (IntKind.i8.wrap (Go.bits .and .u32 (a0 / 8388608) 15)), .int .i8 (IntKind.i8.wrap (Go.bits .and .u32 (a0 / 524288) 15)), .int .i8 (IntKind.i8.wrap (Go.bits .and .u32 (a0 / 32768) 15)), .int .i64 (wrap64 (Go.bits .and .u32 a0 32767))]] rfl (by (try simp only [List.map_toArray, List.map_cons, List.map_nil]); first | done | rfl | (simp only [List.length_drop, List.length_take]; rfl)) ?_; (with_reducible refine (isa_Encode.calls (IntKind.i8.wrap (a0 / 134217728)) (IntKind.i8.wrap (Go.bits .and .u32 (a0 / 8388608) 15)) (IntKind.i8.wrap (Go.bits .and .u32 (a0 / 524288) 15)) (IntKind.i8.wrap (Go.bits .and .u32 (a0 / 32768) 15)) (wrap64 (Go.bits .and .u32 a0 32767)) t106 t107 _ A30.out).mono ?_); rintro e w44 ⟨rfl, hb⟩; refine ⟨_, rfl, ?_⟩; have n0_ := Aside0.mk (blk_below (g := gb101) (o := .cells #[.int .i8 0, .int .i8 0, .int .i8 0, .int .i8 0, .int .i64 0] 40 (0, 0)) (by (with_reducible repeat (first | refine blk_drewN ?_ _ | refine blk_drew ?_ | refine blk_alloc ?_ _)); exact BK101.out) hb); have n1_ := Aside0.mk (blk_below (g := gb102) (o := .cells #[.int .i8 (IntKind.i8.wrap (a0 / 134217728)), .int .i8 (IntKind.i8.wrap (Go.bits .and .u32 (a0 / 8388608) 15)), .int .i8 (IntKind.i8.wrap (Go.bits .and .u32 (a0 / 524288) 15)), .int .i8 (IntKind.i8.wrap (Go.bits .and .u32 (a0 / 32768) 15)), .int .i64 (wrap64 (Go.bits .and .u32 a0 32767))] 40 (0, 0)) (by (with_reducible repeat (first | refine blk_drewN ?_ _ | refine blk_drew ?_ | refine blk_alloc ?_ _)); exact BK102.out) hb); have n2_ := Aside0.mk (below_step (by repeat (first | (with_reducible first | exact HB.out | apply below_alloc | apply pw_below_drewN | apply below_drew1 | refine below_set ?_ GE101.out | refine below_set ?_ GE102.out) | exact HB.out)) hb); clear BK101; clear BK102; clear HB; have BK101 := n0_; have BK102 := n1_; have HB := n2_; clear n0_ n1_ n2_; (try clear hb); (try clear hb2); (try clear hk); (try clear hi); have hcz45_0 : w44.cell? ⟨gb101, 0, none⟩ = some (.int .i8 0) := (blk_cell BK101.out 0).trans rfl; have hcz45_1 : w44.cell? ⟨gb101, 1, none⟩ = some (.int .i8 0) := (blk_cell BK101.out 1).trans rfl; have hcz45_2 : w44.cell? ⟨gb101, 2, none⟩ = some (.int .i8 0) := (blk_cell BK101.out 2).trans rfl; have hcz45_3 : w44.cell? ⟨gb101, 3, none⟩ = some (.int .i8 0) := (blk_cell BK101.out 3).trans rfl; have hcz45_4 : w44.cell? ⟨gb101, 4, none⟩ = some (.int .i64 0) := (blk_cell BK101.out 4).trans rfl; have hfz45_0 := blk_frozen BK101.out 0; have hfz45_1 := blk_frozen BK101.out 1; have hfz45_2 := blk_frozen BK101.out 2; have hfz45_3 := blk_frozen BK101.out 3; have hfz45_4 := blk_frozen BK101.out 4))
     refine bodyPost_ret (results_cell_row rfl _ _ gb101 40 #[.int .i8 (-1), .int .i8 0, .int .i8 0, .int .i8 0, .int .i64 (wrap64 (a0))] (0, 0) _ rfl (by (with_reducible repeat (first | refine blk_drewN ?_ _ | refine blk_drew ?_ | refine blk_alloc ?_ _)); refine blk_put (cs := #[.int .i8 (-1), .int .i8 0, .int .i8 0, .int .i8 0, .int .i64 0]) ?_ 4 _ rfl; (with_reducible repeat (first | refine blk_drewN ?_ _ | refine blk_drew ?_ | refine blk_alloc ?_ _)); refine blk_put (cs := #[.int .i8 (-1), .int .i8 0, .int .i8 0, .int .i8 0, .int .i64 0]) ?_ 3 _ rfl; (with_reducible repeat (first | refine blk_drewN ?_ _ | refine blk_drew ?_ | refine blk_alloc ?_ _)); refine blk_put (cs := #[.int .i8 (-1), .int .i8 0, .int .i8 0, .int .i8 0, .int .i64 0]) ?_ 2 _ rfl; (with_reducible repeat (first | refine blk_drewN ?_ _ | refine blk_drew ?_ | refine blk_alloc ?_ _)); refine blk_put (cs := #[.int .i8 (-1), .int .i8 0, .int .i8 0, .int .i8 0, .int .i64 0]) ?_ 1 _ rfl; (with_reducible repeat (first | refine blk_drewN ?_ _ | refine blk_drew ?_ | refine blk_alloc ?_ _)); refine blk_put (cs := #[.int .i8 0, .int .i8 0, .int .i8 0, .int .i8 0, .int .i64 0]) ?_ 0 _ rfl; (with_reducible repeat (first | refine blk_drewN ?_ _ | refine blk_drew ?_ | refine blk_alloc ?_ _)); exact BK101.out) Try.underlying40 rfl (by kernel_rfl)) rfl ?_
     exact ⟨by first | rfl | (simp [errW_none, errW_some] <;> rfl) | (simp [*, errW_none, errW_some] <;> rfl), by repeat (first | (with_reducible first | exact HB.out | apply below_alloc | apply pw_below_drewN | apply below_drew1 | refine below_set ?_ GE101.out | refine below_set ?_ GE102.out) | exact HB.out)⟩

-- NOT PRINTED: function 36 (touch_sets)

/-! ### isa_Has: function 47 -/
def isa_Has.f (a0 : Int) : Option (Bool × Bool × Bool × Bool × Bool) := (isa_has.f a0).bind fun t108 => (some (((Go.bits .and .i64 t108 1) != 0), ((Go.bits .and .i64 t108 2) != 0), ((Go.bits .and .i64 t108 4) != 0), ((Go.bits .and .i64 t108 8) != 0), ((Go.bits .and .i64 t108 16) != 0)))
set_option maxHeartbeats 8000000 in
set_option maxRecDepth 100000 in
theorem isa_Has.calls (a0 : Int) (r1 : Bool) (r2 : Bool) (r3 : Bool) (r4 : Bool) (r5 : Bool) (w : World) (h : isa_Has.f a0 = some (r1, r2, r3, r4, r5)) :
  Calls Try.prog 47 #[.int .i8 a0] w fun e w' => e = .returned (.tuple #[.bool r1, .bool r2, .bool r3, .bool r4, .bool r5]) ∧ Below w.heap.size w w' := by
 have HB := Aside0.mk (Below.refl w.heap.size w)
 have H : ((isa_has.f a0).bind fun t108 => (some (((Go.bits .and .i64 t108 1) != 0), ((Go.bits .and .i64 t108 2) != 0), ((Go.bits .and .i64 t108 4) != 0), ((Go.bits .and .i64 t108 8) != 0), ((Go.bits .and .i64 t108 16) != 0)))) = some (r1, r2, r3, r4, r5) := h
 clear h
 replace H := Option.bind_eq_some_iff.mp H
 obtain ⟨t108, A20, H⟩ := H
 replace H : (some (((Go.bits .and .i64 t108 1) != 0), ((Go.bits .and .i64 t108 2) != 0), ((Go.bits .and .i64 t108 4) != 0), ((Go.bits .and .i64 t108 8) != 0), ((Go.bits .and .i64 t108 16) != 0))) = some (r1, r2, r3, r4, r5) := H
 have A2 := Aside0.mk A20
 clear A20
 simp only [Option.some.injEq, Prod.mk.injEq] at H
 obtain ⟨rfl, rfl, rfl, rfl, rfl⟩ := H
 go_enter Try.func47, Try.ntmps47
 go_wp2_with (first | ((with_reducible refine gate_callee (f := 21) rfl ?_); refine goesL_ (some 9) rfl rfl Try.func21 (by kernel_rfl) rfl #[.int .i8 a0] rfl (by (try simp only [List.map_toArray, List.map_cons, List.map_nil]); first | done | rfl | (simp only [List.length_drop, List.length_take]; rfl)) ?_; (with_reducible refine (isa_has.calls a0 t108 _ A2.out).mono ?_); rintro e w3 ⟨rfl, hb⟩; refine ⟨_, rfl, ?_⟩; have n0_ := Aside0.mk (below_step (by repeat (first | (with_reducible first | exact HB.out | apply below_alloc | apply pw_below_drewN | apply below_drew1) | exact HB.out)) hb); clear HB; have HB := n0_; clear n0_; (try clear hb); (try clear hb2); (try clear hk); (try clear hi)))
 refine bodyPost_ret (results_list (rs := [.tmp 2, .tmp 3, .tmp 4, .tmp 5, .tmp 6]) rfl (by simp) (.tmp (.tmp (.tmp (.tmp (.tmp .nil)))))) rfl ?_
 exact ⟨by first | rfl | (simp [errW_none, errW_some] <;> rfl) | (simp [*, errW_none, errW_some] <;> rfl), by repeat (first | (with_reducible first | exact HB.out | apply below_alloc | apply pw_below_drewN | apply below_drew1) | exact HB.out)⟩

/-! ### touch_word_reads: function 37 -/
def touch_word_reads.f (a0_0 : Int) (a0_1 : Int) (a0_2 : Int) (a0_3 : Int) (a0_4 : Int) : Option (Int) := (isa_Has.f a0_0).bind fun bt110 => (if bt110.2.1 = true then (if 0 ≤ a0_2 then (if bt110.2.2.1 = true then (if 0 ≤ a0_3 then (some (Go.bits .or .u16 (Go.bits .or .u16 0 (shl .u16 1 a0_2)) (shl .u16 1 a0_3))) else (none)) else (some (Go.bits .or .u16 0 (shl .u16 1 a0_2)))) else (none)) else (if bt110.2.2.1 = true then (if 0 ≤ a0_3 then (some (Go.bits .or .u16 0 (shl .u16 1 a0_3))) else (none)) else (some 0)))
set_option maxHeartbeats 8000000 in
set_option maxRecDepth 100000 in
theorem touch_word_reads.calls (a0_0 : Int) (a0_1 : Int) (a0_2 : Int) (a0_3 : Int) (a0_4 : Int) (r : Int) (w : World) (h : touch_word_reads.f a0_0 a0_1 a0_2 a0_3 a0_4 = some r) :
  Calls Try.prog 37 #[.agg #[.int .i8 a0_0, .int .i8 a0_1, .int .i8 a0_2, .int .i8 a0_3, .int .i64 a0_4]] w fun e w' => e = .returned (.int .u16 r) ∧ Below w.heap.size w w' := by
 have hu72 := Try.underlying72
 have HB := Aside0.mk (Below.refl w.heap.size w)
 have H : ((isa_Has.f a0_0).bind fun bt110 => (if bt110.2.1 = true then (if 0 ≤ a0_2 then (if bt110.2.2.1 = true then (if 0 ≤ a0_3 then (some (Go.bits .or .u16 (Go.bits .or .u16 0 (shl .u16 1 a0_2)) (shl .u16 1 a0_3))) else (none)) else (some (Go.bits .or .u16 0 (shl .u16 1 a0_2)))) else (none)) else (if bt110.2.2.1 = true then (if 0 ≤ a0_3 then (some (Go.bits .or .u16 0 (shl .u16 1 a0_3))) else (none)) else (some 0)))) = some r := h
 clear h
 replace H := Option.bind_eq_some_iff.mp H
 obtain ⟨⟨t110, t111, t112, t113, t114⟩, A20, H⟩ := H
 replace H : (if t111 = true then (if 0 ≤ a0_2 then (if t112 = true then (if 0 ≤ a0_3 then (some (Go.bits .or .u16 (Go.bits .or .u16 0 (shl .u16 1 a0_2)) (shl .u16 1 a0_3))) else (none)) else (some (Go.bits .or .u16 0 (shl .u16 1 a0_2)))) else (none)) else (if t112 = true then (if 0 ≤ a0_3 then (some (Go.bits .or .u16 0 (shl .u16 1 a0_3))) else (none)) else (some 0))) = some r := H
 have A2 := Aside0.mk A20
 clear A20
 by_cases c3 : t111 = true
 ·subst c3
  have H1 : (if 0 ≤ a0_2 then (if t112 = true then (if 0 ≤ a0_3 then (some (Go.bits .or .u16 (Go.bits .or .u16 0 (shl .u16 1 a0_2)) (shl .u16 1 a0_3))) else (none)) else (some (Go.bits .or .u16 0 (shl .u16 1 a0_2)))) else (none)) = some r := by rw [if_pos rfl] at H; exact H
  clear H
  have H := H1
  clear H1
  by_cases c4 : 0 ≤ a0_2
  ·rw [if_pos c4] at H
   have c4b0 := eq_true c4
   have c4b1 : decide (0 ≤ a0_2) = true := decide_eq_true c4
   clear c4
   obtain ⟨ji5, hji5⟩ : ∃ j_ : Int, (shl .u16 1 a0_2) = j_ := ⟨_, rfl⟩
   replace H : (if t112 = true then (if 0 ≤ a0_3 then (some (Go.bits .or .u16 (Go.bits .or .u16 0 (ji5)) (shl .u16 1 a0_3))) else (none)) else (some (Go.bits .or .u16 0 (ji5)))) = some r := by first | (rw [hji5] at H; exact H) | (simp only [hji5] at H ⊢; exact H)
   (try rw [hji5] at A2)
   have hji5_ : (IntKind.u16.wrap (1 * 2 ^ min a0_2.toNat 16)) = ji5 := hji5
   have hji5z : a0_2 ≤ 16 → (IntKind.u16.wrap (1 * 2 ^ a0_2.toNat)) = ji5 := shl_small hji5
   have hji5u : (IntKind.u16.wrap (2 ^ min a0_2.toNat 16)) = ji5 := by have h_ := hji5_; rw [Int.one_mul] at h_; exact h_
   have hji5v : a0_2 ≤ 16 → (IntKind.u16.wrap (2 ^ a0_2.toNat)) = ji5 := fun hle_ => by have h_ := hji5z hle_; rw [Int.one_mul] at h_; exact h_
   by_cases c6 : t112 = true
   ·subst c6
    have H1 : (if 0 ≤ a0_3 then (some (Go.bits .or .u16 (Go.bits .or .u16 0 (ji5)) (shl .u16 1 a0_3))) else (none)) = some r := by rw [if_pos rfl] at H; exact H
    clear H
    have H := H1
    clear H1
    by_cases c7 : 0 ≤ a0_3
    ·rw [if_pos c7] at H
     have c7b0 := eq_true c7
     have c7b1 : decide (0 ≤ a0_3) = true := decide_eq_true c7
     clear c7
     obtain ⟨ji8, hji8⟩ : ∃ j_ : Int, (shl .u16 1 a0_3) = j_ := ⟨_, rfl⟩
     replace H : (some (Go.bits .or .u16 (Go.bits .or .u16 0 (ji5)) (ji8))) = some r := by first | (rw [hji8] at H; exact H) | (simp only [hji8] at H ⊢; exact H)
     (try rw [hji8] at A2)
     have hji8_ : (IntKind.u16.wrap (1 * 2 ^ min a0_3.toNat 16)) = ji8 := hji8
     have hji8z : a0_3 ≤ 16 → (IntKind.u16.wrap (1 * 2 ^ a0_3.toNat)) = ji8 := shl_small hji8
     have hji8u : (IntKind.u16.wrap (2 ^ min a0_3.toNat 16)) = ji8 := by have h_ := hji8_; rw [Int.one_mul] at h_; exact h_
     have hji8v : a0_3 ≤ 16 → (IntKind.u16.wrap (2 ^ a0_3.toNat)) = ji8 := fun hle_ => by have h_ := hji8z hle_; rw [Int.one_mul] at h_; exact h_
     obtain rfl := Option.some.inj H
     go_enter Try.func37, Try.ntmps37
     go_wp2_with (first | ((with_reducible refine gate_dst (N := 1) rfl ?_); refine box_event ?hg (N := 1) ?hd (cs := #[.int .i8 a0_0, .int .i8 a0_1, .int .i8 a0_2, .int .i8 a0_3, .int .i64 a0_4]) (t := 72) ?hr ?_; (case hd => rfl); (case hg => rfl); (case hr => first | (go_simp; done) | (go_simp; rfl)); intro gb109 hg w9 hbox hb; have n0_ := Aside0.mk (below_step (by repeat (first | (with_reducible first | exact HB.out | apply below_alloc | apply pw_below_drewN | apply below_drew1) | exact HB.out)) hb); have n1_ := Aside0.mk (hbox); have n2_ := Aside0.mk ((by rw [hg]; exact (below_size (by repeat (first | (with_reducible first | exact HB.out | apply below_alloc | apply pw_below_drewN | apply below_drew1) | exact HB.out))) : w.heap.size ≤ gb109)); have n3_ := Aside0.mk ((by rw [hg]; exact (below_size (by repeat (first | (with_reducible first | exact HB.out | apply below_alloc | apply pw_below_drewN | apply below_drew1) | exact HB.out))) : w.heap.size ≤ gb109)); clear HB; have HB := n0_; have BK109 := n1_; have GW109 := n2_; have GE109 := n3_; clear n0_ n1_ n2_ n3_; clear hb hbox hg; have hcz10_0 : w9.cell? ⟨gb109, 0, none⟩ = some (.int .i8 a0_0) := (blk_cell BK109.out 0).trans rfl; have hcz10_1 : w9.cell? ⟨gb109, 1, none⟩ = some (.int .i8 a0_1) := (blk_cell BK109.out 1).trans rfl; have hcz10_2 : w9.cell? ⟨gb109, 2, none⟩ = some (.int .i8 a0_2) := (blk_cell BK109.out 2).trans rfl; have hcz10_3 : w9.cell? ⟨gb109, 3, none⟩ = some (.int .i8 a0_3) := (blk_cell BK109.out 3).trans rfl; have hcz10_4 : w9.cell? ⟨gb109, 4, none⟩ = some (.int .i64 a0_4) := (blk_cell BK109.out 4).trans rfl; have hfz10_0 := blk_frozen BK109.out 0; have hfz10_1 := blk_frozen BK109.out 1; have hfz10_2 := blk_frozen BK109.out 2; have hfz10_3 := blk_frozen BK109.out 3; have hfz10_4 := blk_frozen BK109.out 4) | ((with_reducible refine gate_callee (f := 47) rfl ?_); refine goesL_ (some 13) rfl rfl Try.func47 (by kernel_rfl) rfl #[.int .i8 a0_0] rfl (by (try simp only [List.map_toArray, List.map_cons, List.map_nil]); first | done | rfl | (simp only [List.length_drop, List.length_take]; rfl)) ?_; (with_reducible refine (isa_Has.calls a0_0 t110 true true t113 t114 _ A2.out).mono ?_); rintro e w11 ⟨rfl, hb⟩; refine ⟨_, rfl, ?_⟩; have n0_ := Aside0.mk (blk_below (g := gb109) (o := .cells #[.int .i8 a0_0, .int .i8 a0_1, .int .i8 a0_2, .int .i8 a0_3, .int .i64 a0_4] 72 (0, 0)) (by (with_reducible repeat (first | refine blk_drewN ?_ _ | refine blk_drew ?_ | refine blk_alloc ?_ _)); exact BK109.out) hb); have n1_ := Aside0.mk (below_step (by repeat (first | (with_reducible first | exact HB.out | apply below_alloc | apply pw_below_drewN | apply below_drew1 | refine below_set ?_ GE109.out) | exact HB.out)) hb); clear BK109; clear HB; have BK109 := n0_; have HB := n1_; clear n0_ n1_; (try clear hb); (try clear hb2); (try clear hk); (try clear hi); have hcz12_0 : w11.cell? ⟨gb109, 0, none⟩ = some (.int .i8 a0_0) := (blk_cell BK109.out 0).trans rfl; have hcz12_1 : w11.cell? ⟨gb109, 1, none⟩ = some (.int .i8 a0_1) := (blk_cell BK109.out 1).trans rfl; have hcz12_2 : w11.cell? ⟨gb109, 2, none⟩ = some (.int .i8 a0_2) := (blk_cell BK109.out 2).trans rfl; have hcz12_3 : w11.cell? ⟨gb109, 3, none⟩ = some (.int .i8 a0_3) := (blk_cell BK109.out 3).trans rfl; have hcz12_4 : w11.cell? ⟨gb109, 4, none⟩ = some (.int .i64 a0_4) := (blk_cell BK109.out 4).trans rfl; have hfz12_0 := blk_frozen BK109.out 0; have hfz12_1 := blk_frozen BK109.out 1; have hfz12_2 := blk_frozen BK109.out 2; have hfz12_3 := blk_frozen BK109.out 3; have hfz12_4 := blk_frozen BK109.out 4))
     go_ret
     exact ⟨by first | rfl | (simp [errW_none, errW_some] <;> rfl) | (simp only [← hji5, ← hji8]; first | rfl | (simp [errW_none, errW_some] <;> rfl)) | (simp [*, errW_none, errW_some] <;> rfl), by repeat (first | (with_reducible first | exact HB.out | apply below_alloc | apply pw_below_drewN | apply below_drew1 | refine below_set ?_ GE109.out) | exact HB.out)⟩
    ·rw [if_neg c7] at H
     exact absurd H (by simp)
   ·replace c6 := Bool.eq_false_iff.mpr c6
    subst c6
    have H1 : (some (Go.bits .or .u16 0 (ji5))) = some r := by rw [if_neg (show ¬ (false = true) by decide)] at H; exact H
    clear H
    have H := H1
    clear H1
    obtain rfl := Option.some.inj H
    go_enter Try.func37, Try.ntmps37
    go_wp2_with (first | ((with_reducible refine gate_dst (N := 1) rfl ?_); refine box_event ?hg (N := 1) ?hd (cs := #[.int .i8 a0_0, .int .i8 a0_1, .int .i8 a0_2, .int .i8 a0_3, .int .i64 a0_4]) (t := 72) ?hr ?_; (case hd => rfl); (case hg => rfl); (case hr => first | (go_simp; done) | (go_simp; rfl)); intro gb109 hg w13 hbox hb; have n0_ := Aside0.mk (below_step (by repeat (first | (with_reducible first | exact HB.out | apply below_alloc | apply pw_below_drewN | apply below_drew1) | exact HB.out)) hb); have n1_ := Aside0.mk (hbox); have n2_ := Aside0.mk ((by rw [hg]; exact (below_size (by repeat (first | (with_reducible first | exact HB.out | apply below_alloc | apply pw_below_drewN | apply below_drew1) | exact HB.out))) : w.heap.size ≤ gb109)); have n3_ := Aside0.mk ((by rw [hg]; exact (below_size (by repeat (first | (with_reducible first | exact HB.out | apply below_alloc | apply pw_below_drewN | apply below_drew1) | exact HB.out))) : w.heap.size ≤ gb109)); clear HB; have HB := n0_; have BK109 := n1_; have GW109 := n2_; have GE109 := n3_; clear n0_ n1_ n2_ n3_; clear hb hbox hg; have hcz14_0 : w13.cell? ⟨gb109, 0, none⟩ = some (.int .i8 a0_0) := (blk_cell BK109.out 0).trans rfl; have hcz14_1 : w13.cell? ⟨gb109, 1, none⟩ = some (.int .i8 a0_1) := (blk_cell BK109.out 1).trans rfl; have hcz14_2 : w13.cell? ⟨gb109, 2, none⟩ = some (.int .i8 a0_2) := (blk_cell BK109.out 2).trans rfl; have hcz14_3 : w13.cell? ⟨gb109, 3, none⟩ = some (.int .i8 a0_3) := (blk_cell BK109.out 3).trans rfl; have hcz14_4 : w13.cell? ⟨gb109, 4, none⟩ = some (.int .i64 a0_4) := (blk_cell BK109.out 4).trans rfl; have hfz14_0 := blk_frozen BK109.out 0; have hfz14_1 := blk_frozen BK109.out 1; have hfz14_2 := blk_frozen BK109.out 2; have hfz14_3 := blk_frozen BK109.out 3; have hfz14_4 := blk_frozen BK109.out 4) | ((with_reducible refine gate_callee (f := 47) rfl ?_); refine goesL_ (some 13) rfl rfl Try.func47 (by kernel_rfl) rfl #[.int .i8 a0_0] rfl (by (try simp only [List.map_toArray, List.map_cons, List.map_nil]); first | done | rfl | (simp only [List.length_drop, List.length_take]; rfl)) ?_; (with_reducible refine (isa_Has.calls a0_0 t110 true false t113 t114 _ A2.out).mono ?_); rintro e w15 ⟨rfl, hb⟩; refine ⟨_, rfl, ?_⟩; have n0_ := Aside0.mk (blk_below (g := gb109) (o := .cells #[.int .i8 a0_0, .int .i8 a0_1, .int .i8 a0_2, .int .i8 a0_3, .int .i64 a0_4] 72 (0, 0)) (by (with_reducible repeat (first | refine blk_drewN ?_ _ | refine blk_drew ?_ | refine blk_alloc ?_ _)); exact BK109.out) hb); have n1_ := Aside0.mk (below_step (by repeat (first | (with_reducible first | exact HB.out | apply below_alloc | apply pw_below_drewN | apply below_drew1 | refine below_set ?_ GE109.out) | exact HB.out)) hb); clear BK109; clear HB; have BK109 := n0_; have HB := n1_; clear n0_ n1_; (try clear hb); (try clear hb2); (try clear hk); (try clear hi); have hcz16_0 : w15.cell? ⟨gb109, 0, none⟩ = some (.int .i8 a0_0) := (blk_cell BK109.out 0).trans rfl; have hcz16_1 : w15.cell? ⟨gb109, 1, none⟩ = some (.int .i8 a0_1) := (blk_cell BK109.out 1).trans rfl; have hcz16_2 : w15.cell? ⟨gb109, 2, none⟩ = some (.int .i8 a0_2) := (blk_cell BK109.out 2).trans rfl; have hcz16_3 : w15.cell? ⟨gb109, 3, none⟩ = some (.int .i8 a0_3) := (blk_cell BK109.out 3).trans rfl; have hcz16_4 : w15.cell? ⟨gb109, 4, none⟩ = some (.int .i64 a0_4) := (blk_cell BK109.out 4).trans rfl; have hfz16_0 := blk_frozen BK109.out 0; have hfz16_1 := blk_frozen BK109.out 1; have hfz16_2 := blk_frozen BK109.out 2; have hfz16_3 := blk_frozen BK109.out 3; have hfz16_4 := blk_frozen BK109.out 4))
    go_ret
    exact ⟨by first | rfl | (simp [errW_none, errW_some] <;> rfl) | (simp only [← hji5]; first | rfl | (simp [errW_none, errW_some] <;> rfl)) | (simp [*, errW_none, errW_some] <;> rfl), by repeat (first | (with_reducible first | exact HB.out | apply below_alloc | apply pw_below_drewN | apply below_drew1 | refine below_set ?_ GE109.out) | exact HB.out)⟩
  ·rw [if_neg c4] at H
   exact absurd H (by simp)
 ·replace c3 := Bool.eq_false_iff.mpr c3
  subst c3
  have H1 : (if t112 = true then (if 0 ≤ a0_3 then (some (Go.bits .or .u16 0 (shl .u16 1 a0_3))) else (none)) else (some 0)) = some r := by rw [if_neg (show ¬ (false = true) by decide)] at H; exact H
  clear H
  have H := H1
  clear H1
  by_cases c17 : t112 = true
  ·subst c17
   have H1 : (if 0 ≤ a0_3 then (some (Go.bits .or .u16 0 (shl .u16 1 a0_3))) else (none)) = some r := by rw [if_pos rfl] at H; exact H
   clear H
   have H := H1
   clear H1
   by_cases c18 : 0 ≤ a0_3
   ·rw [if_pos c18] at H
    have c18b0 := eq_true c18
    have c18b1 : decide (0 ≤ a0_3) = true := decide_eq_true c18
    clear c18
    obtain ⟨ji19, hji19⟩ : ∃ j_ : Int, (shl .u16 1 a0_3) = j_ := ⟨_, rfl⟩
    replace H : (some (Go.bits .or .u16 0 (ji19))) = some r := by first | (rw [hji19] at H; exact H) | (simp only [hji19] at H ⊢; exact H)
    (try rw [hji19] at A2)
    have hji19_ : (IntKind.u16.wrap (1 * 2 ^ min a0_3.toNat 16)) = ji19 := hji19
    have hji19z : a0_3 ≤ 16 → (IntKind.u16.wrap (1 * 2 ^ a0_3.toNat)) = ji19 := shl_small hji19
    have hji19u : (IntKind.u16.wrap (2 ^ min a0_3.toNat 16)) = ji19 := by have h_ := hji19_; rw [Int.one_mul] at h_; exact h_
    have hji19v : a0_3 ≤ 16 → (IntKind.u16.wrap (2 ^ a0_3.toNat)) = ji19 := fun hle_ => by have h_ := hji19z hle_; rw [Int.one_mul] at h_; exact h_
    obtain rfl := Option.some.inj H
    go_enter Try.func37, Try.ntmps37
    go_wp2_with (first | ((with_reducible refine gate_dst (N := 1) rfl ?_); refine box_event ?hg (N := 1) ?hd (cs := #[.int .i8 a0_0, .int .i8 a0_1, .int .i8 a0_2, .int .i8 a0_3, .int .i64 a0_4]) (t := 72) ?hr ?_; (case hd => rfl); (case hg => rfl); (case hr => first | (go_simp; done) | (go_simp; rfl)); intro gb109 hg w20 hbox hb; have n0_ := Aside0.mk (below_step (by repeat (first | (with_reducible first | exact HB.out | apply below_alloc | apply pw_below_drewN | apply below_drew1) | exact HB.out)) hb); have n1_ := Aside0.mk (hbox); have n2_ := Aside0.mk ((by rw [hg]; exact (below_size (by repeat (first | (with_reducible first | exact HB.out | apply below_alloc | apply pw_below_drewN | apply below_drew1) | exact HB.out))) : w.heap.size ≤ gb109)); have n3_ := Aside0.mk ((by rw [hg]; exact (below_size (by repeat (first | (with_reducible first | exact HB.out | apply below_alloc | apply pw_below_drewN | apply below_drew1) | exact HB.out))) : w.heap.size ≤ gb109)); clear HB; have HB := n0_; have BK109 := n1_; have GW109 := n2_; have GE109 := n3_; clear n0_ n1_ n2_ n3_; clear hb hbox hg; have hcz21_0 : w20.cell? ⟨gb109, 0, none⟩ = some (.int .i8 a0_0) := (blk_cell BK109.out 0).trans rfl; have hcz21_1 : w20.cell? ⟨gb109, 1, none⟩ = some (.int .i8 a0_1) := (blk_cell BK109.out 1).trans rfl; have hcz21_2 : w20.cell? ⟨gb109, 2, none⟩ = some (.int .i8 a0_2) := (blk_cell BK109.out 2).trans rfl; have hcz21_3 : w20.cell? ⟨gb109, 3, none⟩ = some (.int .i8 a0_3) := (blk_cell BK109.out 3).trans rfl; have hcz21_4 : w20.cell? ⟨gb109, 4, none⟩ = some (.int .i64 a0_4) := (blk_cell BK109.out 4).trans rfl; have hfz21_0 := blk_frozen BK109.out 0; have hfz21_1 := blk_frozen BK109.out 1; have hfz21_2 := blk_frozen BK109.out 2; have hfz21_3 := blk_frozen BK109.out 3; have hfz21_4 := blk_frozen BK109.out 4) | ((with_reducible refine gate_callee (f := 47) rfl ?_); refine goesL_ (some 13) rfl rfl Try.func47 (by kernel_rfl) rfl #[.int .i8 a0_0] rfl (by (try simp only [List.map_toArray, List.map_cons, List.map_nil]); first | done | rfl | (simp only [List.length_drop, List.length_take]; rfl)) ?_; (with_reducible refine (isa_Has.calls a0_0 t110 false true t113 t114 _ A2.out).mono ?_); rintro e w22 ⟨rfl, hb⟩; refine ⟨_, rfl, ?_⟩; have n0_ := Aside0.mk (blk_below (g := gb109) (o := .cells #[.int .i8 a0_0, .int .i8 a0_1, .int .i8 a0_2, .int .i8 a0_3, .int .i64 a0_4] 72 (0, 0)) (by (with_reducible repeat (first | refine blk_drewN ?_ _ | refine blk_drew ?_ | refine blk_alloc ?_ _)); exact BK109.out) hb); have n1_ := Aside0.mk (below_step (by repeat (first | (with_reducible first | exact HB.out | apply below_alloc | apply pw_below_drewN | apply below_drew1 | refine below_set ?_ GE109.out) | exact HB.out)) hb); clear BK109; clear HB; have BK109 := n0_; have HB := n1_; clear n0_ n1_; (try clear hb); (try clear hb2); (try clear hk); (try clear hi); have hcz23_0 : w22.cell? ⟨gb109, 0, none⟩ = some (.int .i8 a0_0) := (blk_cell BK109.out 0).trans rfl; have hcz23_1 : w22.cell? ⟨gb109, 1, none⟩ = some (.int .i8 a0_1) := (blk_cell BK109.out 1).trans rfl; have hcz23_2 : w22.cell? ⟨gb109, 2, none⟩ = some (.int .i8 a0_2) := (blk_cell BK109.out 2).trans rfl; have hcz23_3 : w22.cell? ⟨gb109, 3, none⟩ = some (.int .i8 a0_3) := (blk_cell BK109.out 3).trans rfl; have hcz23_4 : w22.cell? ⟨gb109, 4, none⟩ = some (.int .i64 a0_4) := (blk_cell BK109.out 4).trans rfl; have hfz23_0 := blk_frozen BK109.out 0; have hfz23_1 := blk_frozen BK109.out 1; have hfz23_2 := blk_frozen BK109.out 2; have hfz23_3 := blk_frozen BK109.out 3; have hfz23_4 := blk_frozen BK109.out 4))
    go_ret
    exact ⟨by first | rfl | (simp [errW_none, errW_some] <;> rfl) | (simp only [← hji19]; first | rfl | (simp [errW_none, errW_some] <;> rfl)) | (simp [*, errW_none, errW_some] <;> rfl), by repeat (first | (with_reducible first | exact HB.out | apply below_alloc | apply pw_below_drewN | apply below_drew1 | refine below_set ?_ GE109.out) | exact HB.out)⟩
   ·rw [if_neg c18] at H
    exact absurd H (by simp)
  ·replace c17 := Bool.eq_false_iff.mpr c17
   subst c17
   have H1 : (some 0) = some r := by rw [if_neg (show ¬ (false = true) by decide)] at H; exact H
   clear H
   have H := H1
   clear H1
   obtain rfl := Option.some.inj H
   go_enter Try.func37, Try.ntmps37
   go_wp2_with (first | ((with_reducible refine gate_dst (N := 1) rfl ?_); refine box_event ?hg (N := 1) ?hd (cs := #[.int .i8 a0_0, .int .i8 a0_1, .int .i8 a0_2, .int .i8 a0_3, .int .i64 a0_4]) (t := 72) ?hr ?_; (case hd => rfl); (case hg => rfl); (case hr => first | (go_simp; done) | (go_simp; rfl)); intro gb109 hg w24 hbox hb; have n0_ := Aside0.mk (below_step (by repeat (first | (with_reducible first | exact HB.out | apply below_alloc | apply pw_below_drewN | apply below_drew1) | exact HB.out)) hb); have n1_ := Aside0.mk (hbox); have n2_ := Aside0.mk ((by rw [hg]; exact (below_size (by repeat (first | (with_reducible first | exact HB.out | apply below_alloc | apply pw_below_drewN | apply below_drew1) | exact HB.out))) : w.heap.size ≤ gb109)); have n3_ := Aside0.mk ((by rw [hg]; exact (below_size (by repeat (first | (with_reducible first | exact HB.out | apply below_alloc | apply pw_below_drewN | apply below_drew1) | exact HB.out))) : w.heap.size ≤ gb109)); clear HB; have HB := n0_; have BK109 := n1_; have GW109 := n2_; have GE109 := n3_; clear n0_ n1_ n2_ n3_; clear hb hbox hg; have hcz25_0 : w24.cell? ⟨gb109, 0, none⟩ = some (.int .i8 a0_0) := (blk_cell BK109.out 0).trans rfl; have hcz25_1 : w24.cell? ⟨gb109, 1, none⟩ = some (.int .i8 a0_1) := (blk_cell BK109.out 1).trans rfl; have hcz25_2 : w24.cell? ⟨gb109, 2, none⟩ = some (.int .i8 a0_2) := (blk_cell BK109.out 2).trans rfl; have hcz25_3 : w24.cell? ⟨gb109, 3, none⟩ = some (.int .i8 a0_3) := (blk_cell BK109.out 3).trans rfl; have hcz25_4 : w24.cell? ⟨gb109, 4, none⟩ = some (.int .i64 a0_4) := (blk_cell BK109.out 4).trans rfl; have hfz25_0 := blk_frozen BK109.out 0; have hfz25_1 := blk_frozen BK109.out 1; have hfz25_2 := blk_frozen BK109.out 2; have hfz25_3 := blk_frozen BK109.out 3; have hfz25_4 := blk_frozen BK109.out 4) | ((with_reducible refine gate_callee (f := 47) rfl ?_); refine goesL_ (some 13) rfl rfl Try.func47 (by kernel_rfl) rfl #[.int .i8 a0_0] rfl (by (try simp only [List.map_toArray, List.map_cons, List.map_nil]); first | done | rfl | (simp only [List.length_drop, List.length_take]; rfl)) ?_; (with_reducible refine (isa_Has.calls a0_0 t110 false false t113 t114 _ A2.out).mono ?_); rintro e w26 ⟨rfl, hb⟩; refine ⟨_, rfl, ?_⟩; have n0_ := Aside0.mk (blk_below (g := gb109) (o := .cells #[.int .i8 a0_0, .int .i8 a0_1, .int .i8 a0_2, .int .i8 a0_3, .int .i64 a0_4] 72 (0, 0)) (by (with_reducible repeat (first | refine blk_drewN ?_ _ | refine blk_drew ?_ | refine blk_alloc ?_ _)); exact BK109.out) hb); have n1_ := Aside0.mk (below_step (by repeat (first | (with_reducible first | exact HB.out | apply below_alloc | apply pw_below_drewN | apply below_drew1 | refine below_set ?_ GE109.out) | exact HB.out)) hb); clear BK109; clear HB; have BK109 := n0_; have HB := n1_; clear n0_ n1_; (try clear hb); (try clear hb2); (try clear hk); (try clear hi)))
   go_ret
   exact ⟨by first | rfl | (simp [errW_none, errW_some] <;> rfl) | (simp [*, errW_none, errW_some] <;> rfl), by repeat (first | (with_reducible first | exact HB.out | apply below_alloc | apply pw_below_drewN | apply below_drew1 | refine below_set ?_ GE109.out) | exact HB.out)⟩

/-! ### touch_word_writes: function 38 -/
def touch_word_writes.f (a0_0 : Int) (a0_1 : Int) (a0_2 : Int) (a0_3 : Int) (a0_4 : Int) : Option (Int) := (isa_Has.f a0_0).bind fun bt116 => (if bt116.1 = true then (if 0 ≤ a0_1 then (some (shl .u16 1 a0_1)) else (none)) else (if a0_0 = 17 then (some 32768) else (if a0_0 = 18 then (some 32768) else (some 0))))
set_option maxHeartbeats 8000000 in
set_option maxRecDepth 100000 in
theorem touch_word_writes.calls (a0_0 : Int) (a0_1 : Int) (a0_2 : Int) (a0_3 : Int) (a0_4 : Int) (r : Int) (w : World) (h : touch_word_writes.f a0_0 a0_1 a0_2 a0_3 a0_4 = some r) :
  Calls Try.prog 38 #[.agg #[.int .i8 a0_0, .int .i8 a0_1, .int .i8 a0_2, .int .i8 a0_3, .int .i64 a0_4]] w fun e w' => e = .returned (.int .u16 r) ∧ Below w.heap.size w w' := by
 have hu72 := Try.underlying72
 have HB := Aside0.mk (Below.refl w.heap.size w)
 have H : ((isa_Has.f a0_0).bind fun bt116 => (if bt116.1 = true then (if 0 ≤ a0_1 then (some (shl .u16 1 a0_1)) else (none)) else (if a0_0 = 17 then (some 32768) else (if a0_0 = 18 then (some 32768) else (some 0))))) = some r := h
 clear h
 replace H := Option.bind_eq_some_iff.mp H
 obtain ⟨⟨t116, t117, t118, t119, t120⟩, A20, H⟩ := H
 replace H : (if t116 = true then (if 0 ≤ a0_1 then (some (shl .u16 1 a0_1)) else (none)) else (if a0_0 = 17 then (some 32768) else (if a0_0 = 18 then (some 32768) else (some 0)))) = some r := H
 have A2 := Aside0.mk A20
 clear A20
 by_cases c3 : t116 = true
 ·subst c3
  have H1 : (if 0 ≤ a0_1 then (some (shl .u16 1 a0_1)) else (none)) = some r := by rw [if_pos rfl] at H; exact H
  clear H
  have H := H1
  clear H1
  by_cases c4 : 0 ≤ a0_1
  ·rw [if_pos c4] at H
   have c4b0 := eq_true c4
   have c4b1 : decide (0 ≤ a0_1) = true := decide_eq_true c4
   clear c4
   obtain ⟨ji5, hji5⟩ : ∃ j_ : Int, (shl .u16 1 a0_1) = j_ := ⟨_, rfl⟩
   replace H : (some ji5) = some r := by first | (rw [hji5] at H; exact H) | (simp only [hji5] at H ⊢; exact H)
   (try rw [hji5] at A2)
   have hji5_ : (IntKind.u16.wrap (1 * 2 ^ min a0_1.toNat 16)) = ji5 := hji5
   have hji5z : a0_1 ≤ 16 → (IntKind.u16.wrap (1 * 2 ^ a0_1.toNat)) = ji5 := shl_small hji5
   have hji5u : (IntKind.u16.wrap (2 ^ min a0_1.toNat 16)) = ji5 := by have h_ := hji5_; rw [Int.one_mul] at h_; exact h_
   have hji5v : a0_1 ≤ 16 → (IntKind.u16.wrap (2 ^ a0_1.toNat)) = ji5 := fun hle_ => by have h_ := hji5z hle_; rw [Int.one_mul] at h_; exact h_
   obtain rfl := Option.some.inj H
   go_enter Try.func38, Try.ntmps38
   go_wp2_with (first | ((with_reducible refine gate_dst (N := 1) rfl ?_); refine box_event ?hg (N := 1) ?hd (cs := #[.int .i8 a0_0, .int .i8 a0_1, .int .i8 a0_2, .int .i8 a0_3, .int .i64 a0_4]) (t := 72) ?hr ?_; (case hd => rfl); (case hg => rfl); (case hr => first | (go_simp; done) | (go_simp; rfl)); intro gb115 hg w6 hbox hb; have n0_ := Aside0.mk (below_step (by repeat (first | (with_reducible first | exact HB.out | apply below_alloc | apply pw_below_drewN | apply below_drew1) | exact HB.out)) hb); have n1_ := Aside0.mk (hbox); have n2_ := Aside0.mk ((by rw [hg]; exact (below_size (by repeat (first | (with_reducible first | exact HB.out | apply below_alloc | apply pw_below_drewN | apply below_drew1) | exact HB.out))) : w.heap.size ≤ gb115)); have n3_ := Aside0.mk ((by rw [hg]; exact (below_size (by repeat (first | (with_reducible first | exact HB.out | apply below_alloc | apply pw_below_drewN | apply below_drew1) | exact HB.out))) : w.heap.size ≤ gb115)); clear HB; have HB := n0_; have BK115 := n1_; have GW115 := n2_; have GE115 := n3_; clear n0_ n1_ n2_ n3_; clear hb hbox hg; have hcz7_0 : w6.cell? ⟨gb115, 0, none⟩ = some (.int .i8 a0_0) := (blk_cell BK115.out 0).trans rfl; have hcz7_1 : w6.cell? ⟨gb115, 1, none⟩ = some (.int .i8 a0_1) := (blk_cell BK115.out 1).trans rfl; have hcz7_2 : w6.cell? ⟨gb115, 2, none⟩ = some (.int .i8 a0_2) := (blk_cell BK115.out 2).trans rfl; have hcz7_3 : w6.cell? ⟨gb115, 3, none⟩ = some (.int .i8 a0_3) := (blk_cell BK115.out 3).trans rfl; have hcz7_4 : w6.cell? ⟨gb115, 4, none⟩ = some (.int .i64 a0_4) := (blk_cell BK115.out 4).trans rfl; have hfz7_0 := blk_frozen BK115.out 0; have hfz7_1 := blk_frozen BK115.out 1; have hfz7_2 := blk_frozen BK115.out 2; have hfz7_3 := blk_frozen BK115.out 3; have hfz7_4 := blk_frozen BK115.out 4) | ((with_reducible refine gate_callee (f := 47) rfl ?_); refine goesL_ (some 12) rfl rfl Try.func47 (by kernel_rfl) rfl #[.int .i8 a0_0] rfl (by (try simp only [List.map_toArray, List.map_cons, List.map_nil]); first | done | rfl | (simp only [List.length_drop, List.length_take]; rfl)) ?_; (with_reducible refine (isa_Has.calls a0_0 true t117 t118 t119 t120 _ A2.out).mono ?_); rintro e w8 ⟨rfl, hb⟩; refine ⟨_, rfl, ?_⟩; have n0_ := Aside0.mk (blk_below (g := gb115) (o := .cells #[.int .i8 a0_0, .int .i8 a0_1, .int .i8 a0_2, .int .i8 a0_3, .int .i64 a0_4] 72 (0, 0)) (by (with_reducible repeat (first | refine blk_drewN ?_ _ | refine blk_drew ?_ | refine blk_alloc ?_ _)); exact BK115.out) hb); have n1_ := Aside0.mk (below_step (by repeat (first | (with_reducible first | exact HB.out | apply below_alloc | apply pw_below_drewN | apply below_drew1 | refine below_set ?_ GE115.out) | exact HB.out)) hb); clear BK115; clear HB; have BK115 := n0_; have HB := n1_; clear n0_ n1_; (try clear hb); (try clear hb2); (try clear hk); (try clear hi); have hcz9_0 : w8.cell? ⟨gb115, 0, none⟩ = some (.int .i8 a0_0) := (blk_cell BK115.out 0).trans rfl; have hcz9_1 : w8.cell? ⟨gb115, 1, none⟩ = some (.int .i8 a0_1) := (blk_cell BK115.out 1).trans rfl; have hcz9_2 : w8.cell? ⟨gb115, 2, none⟩ = some (.int .i8 a0_2) := (blk_cell BK115.out 2).trans rfl; have hcz9_3 : w8.cell? ⟨gb115, 3, none⟩ = some (.int .i8 a0_3) := (blk_cell BK115.out 3).trans rfl; have hcz9_4 : w8.cell? ⟨gb115, 4, none⟩ = some (.int .i64 a0_4) := (blk_cell BK115.out 4).trans rfl; have hfz9_0 := blk_frozen BK115.out 0; have hfz9_1 := blk_frozen BK115.out 1; have hfz9_2 := blk_frozen BK115.out 2; have hfz9_3 := blk_frozen BK115.out 3; have hfz9_4 := blk_frozen BK115.out 4))
   go_ret
   exact ⟨by first | rfl | (simp [errW_none, errW_some] <;> rfl) | (simp only [← hji5]; first | rfl | (simp [errW_none, errW_some] <;> rfl)) | (simp [*, errW_none, errW_some] <;> rfl), by repeat (first | (with_reducible first | exact HB.out | apply below_alloc | apply pw_below_drewN | apply below_drew1 | refine below_set ?_ GE115.out) | exact HB.out)⟩
  ·rw [if_neg c4] at H
   exact absurd H (by simp)
 ·replace c3 := Bool.eq_false_iff.mpr c3
  subst c3
  have H1 : (if a0_0 = 17 then (some 32768) else (if a0_0 = 18 then (some 32768) else (some 0))) = some r := by rw [if_neg (show ¬ (false = true) by decide)] at H; exact H
  clear H
  have H := H1
  clear H1
  by_cases c10 : a0_0 = 17
  ·rw [if_pos c10] at H
   have c10b0 : (a0_0 == 17) = true := beq_iff_eq.mpr c10
   have c10b1 : (a0_0 != 17) = false := bne_eq_false_iff_eq.mpr c10
   clear c10
   obtain rfl := Option.some.inj H
   go_enter Try.func38, Try.ntmps38
   go_wp2_with (first | ((with_reducible refine gate_dst (N := 1) rfl ?_); refine box_event ?hg (N := 1) ?hd (cs := #[.int .i8 a0_0, .int .i8 a0_1, .int .i8 a0_2, .int .i8 a0_3, .int .i64 a0_4]) (t := 72) ?hr ?_; (case hd => rfl); (case hg => rfl); (case hr => first | (go_simp; done) | (go_simp; rfl)); intro gb115 hg w11 hbox hb; have n0_ := Aside0.mk (below_step (by repeat (first | (with_reducible first | exact HB.out | apply below_alloc | apply pw_below_drewN | apply below_drew1) | exact HB.out)) hb); have n1_ := Aside0.mk (hbox); have n2_ := Aside0.mk ((by rw [hg]; exact (below_size (by repeat (first | (with_reducible first | exact HB.out | apply below_alloc | apply pw_below_drewN | apply below_drew1) | exact HB.out))) : w.heap.size ≤ gb115)); have n3_ := Aside0.mk ((by rw [hg]; exact (below_size (by repeat (first | (with_reducible first | exact HB.out | apply below_alloc | apply pw_below_drewN | apply below_drew1) | exact HB.out))) : w.heap.size ≤ gb115)); clear HB; have HB := n0_; have BK115 := n1_; have GW115 := n2_; have GE115 := n3_; clear n0_ n1_ n2_ n3_; clear hb hbox hg; have hcz12_0 : w11.cell? ⟨gb115, 0, none⟩ = some (.int .i8 a0_0) := (blk_cell BK115.out 0).trans rfl; have hcz12_1 : w11.cell? ⟨gb115, 1, none⟩ = some (.int .i8 a0_1) := (blk_cell BK115.out 1).trans rfl; have hcz12_2 : w11.cell? ⟨gb115, 2, none⟩ = some (.int .i8 a0_2) := (blk_cell BK115.out 2).trans rfl; have hcz12_3 : w11.cell? ⟨gb115, 3, none⟩ = some (.int .i8 a0_3) := (blk_cell BK115.out 3).trans rfl; have hcz12_4 : w11.cell? ⟨gb115, 4, none⟩ = some (.int .i64 a0_4) := (blk_cell BK115.out 4).trans rfl; have hfz12_0 := blk_frozen BK115.out 0; have hfz12_1 := blk_frozen BK115.out 1; have hfz12_2 := blk_frozen BK115.out 2; have hfz12_3 := blk_frozen BK115.out 3; have hfz12_4 := blk_frozen BK115.out 4) | ((with_reducible refine gate_callee (f := 47) rfl ?_); refine goesL_ (some 12) rfl rfl Try.func47 (by kernel_rfl) rfl #[.int .i8 a0_0] rfl (by (try simp only [List.map_toArray, List.map_cons, List.map_nil]); first | done | rfl | (simp only [List.length_drop, List.length_take]; rfl)) ?_; (with_reducible refine (isa_Has.calls a0_0 false t117 t118 t119 t120 _ A2.out).mono ?_); rintro e w13 ⟨rfl, hb⟩; refine ⟨_, rfl, ?_⟩; have n0_ := Aside0.mk (blk_below (g := gb115) (o := .cells #[.int .i8 a0_0, .int .i8 a0_1, .int .i8 a0_2, .int .i8 a0_3, .int .i64 a0_4] 72 (0, 0)) (by (with_reducible repeat (first | refine blk_drewN ?_ _ | refine blk_drew ?_ | refine blk_alloc ?_ _)); exact BK115.out) hb); have n1_ := Aside0.mk (below_step (by repeat (first | (with_reducible first | exact HB.out | apply below_alloc | apply pw_below_drewN | apply below_drew1 | refine below_set ?_ GE115.out) | exact HB.out)) hb); clear BK115; clear HB; have BK115 := n0_; have HB := n1_; clear n0_ n1_; (try clear hb); (try clear hb2); (try clear hk); (try clear hi); have hcz14_0 : w13.cell? ⟨gb115, 0, none⟩ = some (.int .i8 a0_0) := (blk_cell BK115.out 0).trans rfl; have hcz14_1 : w13.cell? ⟨gb115, 1, none⟩ = some (.int .i8 a0_1) := (blk_cell BK115.out 1).trans rfl; have hcz14_2 : w13.cell? ⟨gb115, 2, none⟩ = some (.int .i8 a0_2) := (blk_cell BK115.out 2).trans rfl; have hcz14_3 : w13.cell? ⟨gb115, 3, none⟩ = some (.int .i8 a0_3) := (blk_cell BK115.out 3).trans rfl; have hcz14_4 : w13.cell? ⟨gb115, 4, none⟩ = some (.int .i64 a0_4) := (blk_cell BK115.out 4).trans rfl; have hfz14_0 := blk_frozen BK115.out 0; have hfz14_1 := blk_frozen BK115.out 1; have hfz14_2 := blk_frozen BK115.out 2; have hfz14_3 := blk_frozen BK115.out 3; have hfz14_4 := blk_frozen BK115.out 4))
   go_ret
   exact ⟨by first | rfl | (simp [errW_none, errW_some] <;> rfl) | (simp [*, errW_none, errW_some] <;> rfl), by repeat (first | (with_reducible first | exact HB.out | apply below_alloc | apply pw_below_drewN | apply below_drew1 | refine below_set ?_ GE115.out) | exact HB.out)⟩
  ·rw [if_neg c10] at H
   have c10b0 : (a0_0 == 17) = false := beq_eq_false_iff_ne.mpr c10
   have c10b1 : (a0_0 != 17) = true := bne_iff_ne.mpr c10
   by_cases c15 : a0_0 = 18
   ·rw [if_pos c15] at H
    have c15b0 : (a0_0 == 18) = true := beq_iff_eq.mpr c15
    have c15b1 : (a0_0 != 18) = false := bne_eq_false_iff_eq.mpr c15
    clear c15
    obtain rfl := Option.some.inj H
    go_enter Try.func38, Try.ntmps38
    go_wp2_with (first | ((with_reducible refine gate_dst (N := 1) rfl ?_); refine box_event ?hg (N := 1) ?hd (cs := #[.int .i8 a0_0, .int .i8 a0_1, .int .i8 a0_2, .int .i8 a0_3, .int .i64 a0_4]) (t := 72) ?hr ?_; (case hd => rfl); (case hg => rfl); (case hr => first | (go_simp; done) | (go_simp; rfl)); intro gb115 hg w16 hbox hb; have n0_ := Aside0.mk (below_step (by repeat (first | (with_reducible first | exact HB.out | apply below_alloc | apply pw_below_drewN | apply below_drew1) | exact HB.out)) hb); have n1_ := Aside0.mk (hbox); have n2_ := Aside0.mk ((by rw [hg]; exact (below_size (by repeat (first | (with_reducible first | exact HB.out | apply below_alloc | apply pw_below_drewN | apply below_drew1) | exact HB.out))) : w.heap.size ≤ gb115)); have n3_ := Aside0.mk ((by rw [hg]; exact (below_size (by repeat (first | (with_reducible first | exact HB.out | apply below_alloc | apply pw_below_drewN | apply below_drew1) | exact HB.out))) : w.heap.size ≤ gb115)); clear HB; have HB := n0_; have BK115 := n1_; have GW115 := n2_; have GE115 := n3_; clear n0_ n1_ n2_ n3_; clear hb hbox hg; have hcz17_0 : w16.cell? ⟨gb115, 0, none⟩ = some (.int .i8 a0_0) := (blk_cell BK115.out 0).trans rfl; have hcz17_1 : w16.cell? ⟨gb115, 1, none⟩ = some (.int .i8 a0_1) := (blk_cell BK115.out 1).trans rfl; have hcz17_2 : w16.cell? ⟨gb115, 2, none⟩ = some (.int .i8 a0_2) := (blk_cell BK115.out 2).trans rfl; have hcz17_3 : w16.cell? ⟨gb115, 3, none⟩ = some (.int .i8 a0_3) := (blk_cell BK115.out 3).trans rfl; have hcz17_4 : w16.cell? ⟨gb115, 4, none⟩ = some (.int .i64 a0_4) := (blk_cell BK115.out 4).trans rfl; have hfz17_0 := blk_frozen BK115.out 0; have hfz17_1 := blk_frozen BK115.out 1; have hfz17_2 := blk_frozen BK115.out 2; have hfz17_3 := blk_frozen BK115.out 3; have hfz17_4 := blk_frozen BK115.out 4) | ((with_reducible refine gate_callee (f := 47) rfl ?_); refine goesL_ (some 12) rfl rfl Try.func47 (by kernel_rfl) rfl #[.int .i8 a0_0] rfl (by (try simp only [List.map_toArray, List.map_cons, List.map_nil]); first | done | rfl | (simp only [List.length_drop, List.length_take]; rfl)) ?_; (with_reducible refine (isa_Has.calls a0_0 false t117 t118 t119 t120 _ A2.out).mono ?_); rintro e w18 ⟨rfl, hb⟩; refine ⟨_, rfl, ?_⟩; have n0_ := Aside0.mk (blk_below (g := gb115) (o := .cells #[.int .i8 a0_0, .int .i8 a0_1, .int .i8 a0_2, .int .i8 a0_3, .int .i64 a0_4] 72 (0, 0)) (by (with_reducible repeat (first | refine blk_drewN ?_ _ | refine blk_drew ?_ | refine blk_alloc ?_ _)); exact BK115.out) hb); have n1_ := Aside0.mk (below_step (by repeat (first | (with_reducible first | exact HB.out | apply below_alloc | apply pw_below_drewN | apply below_drew1 | refine below_set ?_ GE115.out) | exact HB.out)) hb); clear BK115; clear HB; have BK115 := n0_; have HB := n1_; clear n0_ n1_; (try clear hb); (try clear hb2); (try clear hk); (try clear hi); have hcz19_0 : w18.cell? ⟨gb115, 0, none⟩ = some (.int .i8 a0_0) := (blk_cell BK115.out 0).trans rfl; have hcz19_1 : w18.cell? ⟨gb115, 1, none⟩ = some (.int .i8 a0_1) := (blk_cell BK115.out 1).trans rfl; have hcz19_2 : w18.cell? ⟨gb115, 2, none⟩ = some (.int .i8 a0_2) := (blk_cell BK115.out 2).trans rfl; have hcz19_3 : w18.cell? ⟨gb115, 3, none⟩ = some (.int .i8 a0_3) := (blk_cell BK115.out 3).trans rfl; have hcz19_4 : w18.cell? ⟨gb115, 4, none⟩ = some (.int .i64 a0_4) := (blk_cell BK115.out 4).trans rfl; have hfz19_0 := blk_frozen BK115.out 0; have hfz19_1 := blk_frozen BK115.out 1; have hfz19_2 := blk_frozen BK115.out 2; have hfz19_3 := blk_frozen BK115.out 3; have hfz19_4 := blk_frozen BK115.out 4))
    go_ret
    exact ⟨by first | rfl | (simp [errW_none, errW_some] <;> rfl) | (simp [*, errW_none, errW_some] <;> rfl), by repeat (first | (with_reducible first | exact HB.out | apply below_alloc | apply pw_below_drewN | apply below_drew1 | refine below_set ?_ GE115.out) | exact HB.out)⟩
   ·rw [if_neg c15] at H
    have c15b0 : (a0_0 == 18) = false := beq_eq_false_iff_ne.mpr c15
    have c15b1 : (a0_0 != 18) = true := bne_iff_ne.mpr c15
    obtain rfl := Option.some.inj H
    go_enter Try.func38, Try.ntmps38
    go_wp2_with (first | ((with_reducible refine gate_dst (N := 1) rfl ?_); refine box_event ?hg (N := 1) ?hd (cs := #[.int .i8 a0_0, .int .i8 a0_1, .int .i8 a0_2, .int .i8 a0_3, .int .i64 a0_4]) (t := 72) ?hr ?_; (case hd => rfl); (case hg => rfl); (case hr => first | (go_simp; done) | (go_simp; rfl)); intro gb115 hg w20 hbox hb; have n0_ := Aside0.mk (below_step (by repeat (first | (with_reducible first | exact HB.out | apply below_alloc | apply pw_below_drewN | apply below_drew1) | exact HB.out)) hb); have n1_ := Aside0.mk (hbox); have n2_ := Aside0.mk ((by rw [hg]; exact (below_size (by repeat (first | (with_reducible first | exact HB.out | apply below_alloc | apply pw_below_drewN | apply below_drew1) | exact HB.out))) : w.heap.size ≤ gb115)); have n3_ := Aside0.mk ((by rw [hg]; exact (below_size (by repeat (first | (with_reducible first | exact HB.out | apply below_alloc | apply pw_below_drewN | apply below_drew1) | exact HB.out))) : w.heap.size ≤ gb115)); clear HB; have HB := n0_; have BK115 := n1_; have GW115 := n2_; have GE115 := n3_; clear n0_ n1_ n2_ n3_; clear hb hbox hg; have hcz21_0 : w20.cell? ⟨gb115, 0, none⟩ = some (.int .i8 a0_0) := (blk_cell BK115.out 0).trans rfl; have hcz21_1 : w20.cell? ⟨gb115, 1, none⟩ = some (.int .i8 a0_1) := (blk_cell BK115.out 1).trans rfl; have hcz21_2 : w20.cell? ⟨gb115, 2, none⟩ = some (.int .i8 a0_2) := (blk_cell BK115.out 2).trans rfl; have hcz21_3 : w20.cell? ⟨gb115, 3, none⟩ = some (.int .i8 a0_3) := (blk_cell BK115.out 3).trans rfl; have hcz21_4 : w20.cell? ⟨gb115, 4, none⟩ = some (.int .i64 a0_4) := (blk_cell BK115.out 4).trans rfl; have hfz21_0 := blk_frozen BK115.out 0; have hfz21_1 := blk_frozen BK115.out 1; have hfz21_2 := blk_frozen BK115.out 2; have hfz21_3 := blk_frozen BK115.out 3; have hfz21_4 := blk_frozen BK115.out 4) | ((with_reducible refine gate_callee (f := 47) rfl ?_); refine goesL_ (some 12) rfl rfl Try.func47 (by kernel_rfl) rfl #[.int .i8 a0_0] rfl (by (try simp only [List.map_toArray, List.map_cons, List.map_nil]); first | done | rfl | (simp only [List.length_drop, List.length_take]; rfl)) ?_; (with_reducible refine (isa_Has.calls a0_0 false t117 t118 t119 t120 _ A2.out).mono ?_); rintro e w22 ⟨rfl, hb⟩; refine ⟨_, rfl, ?_⟩; have n0_ := Aside0.mk (blk_below (g := gb115) (o := .cells #[.int .i8 a0_0, .int .i8 a0_1, .int .i8 a0_2, .int .i8 a0_3, .int .i64 a0_4] 72 (0, 0)) (by (with_reducible repeat (first | refine blk_drewN ?_ _ | refine blk_drew ?_ | refine blk_alloc ?_ _)); exact BK115.out) hb); have n1_ := Aside0.mk (below_step (by repeat (first | (with_reducible first | exact HB.out | apply below_alloc | apply pw_below_drewN | apply below_drew1 | refine below_set ?_ GE115.out) | exact HB.out)) hb); clear BK115; clear HB; have BK115 := n0_; have HB := n1_; clear n0_ n1_; (try clear hb); (try clear hb2); (try clear hk); (try clear hi); have hcz23_0 : w22.cell? ⟨gb115, 0, none⟩ = some (.int .i8 a0_0) := (blk_cell BK115.out 0).trans rfl; have hcz23_1 : w22.cell? ⟨gb115, 1, none⟩ = some (.int .i8 a0_1) := (blk_cell BK115.out 1).trans rfl; have hcz23_2 : w22.cell? ⟨gb115, 2, none⟩ = some (.int .i8 a0_2) := (blk_cell BK115.out 2).trans rfl; have hcz23_3 : w22.cell? ⟨gb115, 3, none⟩ = some (.int .i8 a0_3) := (blk_cell BK115.out 3).trans rfl; have hcz23_4 : w22.cell? ⟨gb115, 4, none⟩ = some (.int .i64 a0_4) := (blk_cell BK115.out 4).trans rfl; have hfz23_0 := blk_frozen BK115.out 0; have hfz23_1 := blk_frozen BK115.out 1; have hfz23_2 := blk_frozen BK115.out 2; have hfz23_3 := blk_frozen BK115.out 3; have hfz23_4 := blk_frozen BK115.out 4))
    go_ret
    exact ⟨by first | rfl | (simp [errW_none, errW_some] <;> rfl) | (simp [*, errW_none, errW_some] <;> rfl), by repeat (first | (with_reducible first | exact HB.out | apply below_alloc | apply pw_below_drewN | apply below_drew1 | refine below_set ?_ GE115.out) | exact HB.out)⟩

/-! ### touch_Links: function 20 -/
-- IMPORTS Derived.LoopN
-- CALLS pleat/isa.Decode
-- CALLS (pleat/touch.word).reads
-- CALLS (pleat/touch.word).writes
def touch_Links.f (k : Nat) (a0 : Int) : Option (Bool) := (isa_Decode.f k a0).bind fun t => (touch_word_reads.f t.1 t.2.1 t.2.2.1 t.2.2.2.1 t.2.2.2.2).bind fun r => (touch_word_writes.f t.1 t.2.1 t.2.2.1 t.2.2.2.1 t.2.2.2.2).bind fun s => some (Go.bits .and .u16 (Go.bits .or .u16 (Go.bits .or .u16 0 r) s) 32768 != 0)
theorem touch_Links.mono : ∀ a0 k, LeO (touch_Links.f k a0) (touch_Links.f (k + 1) a0) := fun a0 k => LeO.bind (isa_Decode.mono a0 k) (fun _ => LeO.refl _)
set_option maxHeartbeats 8000000 in
set_option maxRecDepth 100000 in
theorem touch_Links.calls (k : Nat) (a0 : Int) (r : Bool) (w : World) (h : touch_Links.f k a0 = some r) :
  Calls Try.prog 20 #[.int .u32 a0] w fun e w' => e = .returned (.bool r) ∧ Below w.heap.size w w' := by
 obtain ⟨⟨x0, x1, x2, x3, x4⟩, h1, h2⟩ := Option.bind_eq_some_iff.1 h
 obtain ⟨y, h3, h4⟩ := Option.bind_eq_some_iff.1 h2
 obtain ⟨z, h5, h6⟩ := Option.bind_eq_some_iff.1 h4
 obtain rfl := Option.some.inj h6
 have H1 := Aside0.mk h1
 have H3 := Aside0.mk h3
 have H5 := Aside0.mk h5
 clear h h1 h2 h3 h4 h5 h6
 have hmf : ∀ (fn : Fn) (first cap : Array Value) (w : World), (Instr.makeFunc fn first cap).run Try.prog w = .ok (.func fn first cap) w := fun _ _ _ _ => rfl
 have HB := Aside0.mk (Below.refl w.heap.size w)
 go_enter Try.func20, Try.ntmps20
 go_wp2_with fail
 refine (isa_Decode.calls k a0 _ _ _ _ _ _ H1.out).mono ?_
 rintro e w1 ⟨rfl, hb⟩
 have HB1 := Aside0.mk hb
 clear HB hb
 go_wp2
 refine wp_loop_rounds 3 ?_
 rw [rounds_succ]
 go_wp2_with fail
 refine (touch_word_reads.calls x0 x1 x2 x3 x4 y _ H3.out).mono ?_
 rintro e w2 ⟨rfl, hb⟩
 have HB2 := Aside0.mk (below_then HB1.out HB1.out.size (below_then (below_alloc (below_alloc (Below.refl _ _) _) _) (by simp; omega) hb))
 have hc1 : w2.cell? ⟨w1.heap.size + 1, 1, none⟩ = some (.func (.func 38) #[.agg #[.int .i8 x0, .int .i8 x1, .int .i8 x2, .int .i8 x3, .int .i64 x4]] #[]) := ((hb.cell (p := ⟨w1.heap.size + 1, 1, none⟩) (by simp)).trans (by go_simp))
 clear HB1 hb
 go_wp2
 rw [rounds_succ]
 go_wp2_with fail
 refine (touch_word_writes.calls x0 x1 x2 x3 x4 z _ H5.out).mono ?_
 rintro e w3 ⟨rfl, hb⟩
 have HB3 := Aside0.mk (below_then HB2.out HB2.out.size hb)
 clear HB2 hb
 go_wp2
 rw [rounds_succ]
 go_wp2
 go_ret
 exact ⟨rfl, HB3.out⟩

/-! ### touch_Alone: function 10 -/
mutual
def touch_Alone.j0 : Nat → Int → Int → Bool → Int → Int → Int → Int → Int → Option (Bool)
 | 0, _, _, _, _, _, _, _, _ => none
 | k + 1, x0, x7, x8, x127000, x127001, x127002, x127003, x127004 => if x8 = true then (some true) else (if x7 = 19 then (touch_Alone.j1 k x0 x7 (x7 == 19) x127000 x127001 x127002 x127003 x127004) else (touch_Alone.j1 k x0 x7 (x7 == 17) x127000 x127001 x127002 x127003 x127004))
def touch_Alone.j1 : Nat → Int → Int → Bool → Int → Int → Int → Int → Int → Option (Bool)
 | 0, _, _, _, _, _, _, _, _ => none
 | k + 1, x0, x7, x11, x127000, x127001, x127002, x127003, x127004 => if x11 = true then (some false) else (if x7 = 18 then (some (x127002 == 15)) else ((touch_Links.f k x0).bind fun t127 => (some t127)))
end
def touch_Alone.f (k : Nat) (a0 : Int) : Option (Bool) := (isa_Decode.f k a0).bind fun bt121 => (if bt121.1 = (-1) then (touch_Alone.j0 k a0 bt121.1 (bt121.1 == (-1)) bt121.1 bt121.2.1 bt121.2.2.1 bt121.2.2.2.1 bt121.2.2.2.2) else (touch_Alone.j0 k a0 bt121.1 (bt121.1 == 16) bt121.1 bt121.2.1 bt121.2.2.1 bt121.2.2.2.1 bt121.2.2.2.2))
theorem touch_Alone.mono_l : ∀ k, (∀ y0 y1 y2 y3 y4 y5 y6 y7, LeO (touch_Alone.j0 k y0 y1 y2 y3 y4 y5 y6 y7) (touch_Alone.j0 (k + 1) y0 y1 y2 y3 y4 y5 y6 y7)) ∧ (∀ y0 y1 y2 y3 y4 y5 y6 y7, LeO (touch_Alone.j1 k y0 y1 y2 y3 y4 y5 y6 y7) (touch_Alone.j1 (k + 1) y0 y1 y2 y3 y4 y5 y6 y7))
 | 0 => ⟨fun _ _ _ _ _ _ _ _ r h => by simp [touch_Alone.j0] at h, fun _ _ _ _ _ _ _ _ r h => by simp [touch_Alone.j1] at h⟩
 | k + 1 => by
  obtain ⟨ih0, ih1⟩ := touch_Alone.mono_l k
  refine ⟨?_, ?_⟩
  ·intro y0 y1 y2 y3 y4 y5 y6 y7
   unfold touch_Alone.j0
   repeat' first
   | (with_reducible exact ih0 _ _ _ _ _ _ _ _)
   | (with_reducible exact ih1 _ _ _ _ _ _ _ _)
   | (with_reducible exact isa_Decode.mono _ _)
   | (with_reducible exact touch_Links.mono _ _)
   | (with_reducible exact LeO.refl _)
   | (with_reducible exact LeO.none _)
   | (with_reducible refine LeO.ite ?_ ?_)
   | (with_reducible refine LeO.bind ?_ (fun _ => ?_))
   | exact ih0 _ _ _ _ _ _ _ _
   | exact ih1 _ _ _ _ _ _ _ _
   | exact isa_Decode.mono _ _
   | exact touch_Links.mono _ _
   | exact LeO.none _
   | refine LeO.ite ?_ ?_
   | refine LeO.bind ?_ (fun _ => ?_)
  ·intro y0 y1 y2 y3 y4 y5 y6 y7
   unfold touch_Alone.j1
   repeat' first
   | (with_reducible exact ih0 _ _ _ _ _ _ _ _)
   | (with_reducible exact ih1 _ _ _ _ _ _ _ _)
   | (with_reducible exact isa_Decode.mono _ _)
   | (with_reducible exact touch_Links.mono _ _)
   | (with_reducible exact LeO.refl _)
   | (with_reducible exact LeO.none _)
   | (with_reducible refine LeO.ite ?_ ?_)
   | (with_reducible refine LeO.bind ?_ (fun _ => ?_))
   | exact ih0 _ _ _ _ _ _ _ _
   | exact ih1 _ _ _ _ _ _ _ _
   | exact isa_Decode.mono _ _
   | exact touch_Links.mono _ _
   | exact LeO.none _
   | refine LeO.ite ?_ ?_
   | refine LeO.bind ?_ (fun _ => ?_)
theorem touch_Alone.mono : ∀ a0 k, LeO (touch_Alone.f k a0) (touch_Alone.f (k + 1) a0) := by
 intro a0 k
 obtain ⟨ih0, ih1⟩ := touch_Alone.mono_l k
 unfold touch_Alone.f
 repeat' first
   | (with_reducible exact ih0 _ _ _ _ _ _ _ _)
   | (with_reducible exact ih1 _ _ _ _ _ _ _ _)
   | (with_reducible exact isa_Decode.mono _ _)
   | (with_reducible exact touch_Links.mono _ _)
   | (with_reducible exact LeO.refl _)
   | (with_reducible exact LeO.none _)
   | (with_reducible refine LeO.ite ?_ ?_)
   | (with_reducible refine LeO.bind ?_ (fun _ => ?_))
   | exact ih0 _ _ _ _ _ _ _ _
   | exact ih1 _ _ _ _ _ _ _ _
   | exact isa_Decode.mono _ _
   | exact touch_Links.mono _ _
   | exact LeO.none _
   | refine LeO.ite ?_ ?_
   | refine LeO.bind ?_ (fun _ => ?_)
set_option maxHeartbeats 8000000 in
set_option maxRecDepth 100000 in
theorem touch_Alone.calls (k : Nat) (a0 : Int) (r : Bool) (w : World) (h : touch_Alone.f k a0 = some r) :
  Calls Try.prog 10 #[.int .u32 a0] w fun e w' => e = .returned (.bool r) ∧ Below w.heap.size w w' := by
 have hu40 := Try.underlying40
 have HB := Aside0.mk (Below.refl w.heap.size w)
 have H : ((isa_Decode.f k a0).bind fun bt121 => (if bt121.1 = (-1) then (touch_Alone.j0 k a0 bt121.1 (bt121.1 == (-1)) bt121.1 bt121.2.1 bt121.2.2.1 bt121.2.2.2.1 bt121.2.2.2.2) else (touch_Alone.j0 k a0 bt121.1 (bt121.1 == 16) bt121.1 bt121.2.1 bt121.2.2.1 bt121.2.2.2.1 bt121.2.2.2.2))) = some r := h
 clear h
 replace H := Option.bind_eq_some_iff.mp H
 obtain ⟨⟨t121, t122, t123, t124, t125⟩, A20, H⟩ := H
 replace H : (if t121 = (-1) then (touch_Alone.j0 k a0 t121 (t121 == (-1)) t121 t122 t123 t124 t125) else (touch_Alone.j0 k a0 t121 (t121 == 16) t121 t122 t123 t124 t125)) = some r := H
 have A2 := Aside0.mk A20
 clear A20
 have HC3 := Aside0.mk H
 clear H
 go_enter Try.func10, Try.ntmps10
 go_upto_if 8 with (first | ((with_reducible refine gate_callee (f := 12) rfl ?_); refine goesL_ (some 5) rfl rfl Try.func12 (by kernel_rfl) rfl #[.int .u32 a0] rfl (by (try simp only [List.map_toArray, List.map_cons, List.map_nil]); first | done | rfl | (simp only [List.length_drop, List.length_take]; rfl)) ?_; (with_reducible refine (isa_Decode.calls k a0 t121 t122 t123 t124 t125 _ A2.out).mono ?_); rintro e w4 ⟨rfl, hb⟩; refine ⟨_, rfl, ?_⟩; have n0_ := Aside0.mk (below_step (by repeat (first | (with_reducible first | exact HB.out | apply below_alloc | apply pw_below_drewN | apply below_drew1) | exact HB.out)) hb); clear HB; have HB := n0_; clear n0_; (try clear hb); (try clear hb2); (try clear hk); (try clear hi)) | ((with_reducible refine gate_dst (N := 3) rfl ?_); refine box_event ?hg (N := 3) ?hd (cs := #[.int .i8 0, .int .i8 0, .int .i8 0, .int .i8 0, .int .i64 0]) (t := 40) ?hr ?_; (case hd => rfl); (case hg => rfl); (case hr => first | (go_simp; done) | (go_simp; rfl)); intro gb126 hg w5 hbox hb; have n0_ := Aside0.mk (below_step (by repeat (first | (with_reducible first | exact HB.out | apply below_alloc | apply pw_below_drewN | apply below_drew1) | exact HB.out)) hb); have n1_ := Aside0.mk (hbox); have n2_ := Aside0.mk ((by rw [hg]; exact (below_size (by repeat (first | (with_reducible first | exact HB.out | apply below_alloc | apply pw_below_drewN | apply below_drew1) | exact HB.out))) : w.heap.size ≤ gb126)); have n3_ := Aside0.mk ((by rw [hg]; exact (below_size (by repeat (first | (with_reducible first | exact HB.out | apply below_alloc | apply pw_below_drewN | apply below_drew1) | exact HB.out))) : w.heap.size ≤ gb126)); clear HB; have HB := n0_; have BK126 := n1_; have GW126 := n2_; have GE126 := n3_; clear n0_ n1_ n2_ n3_; clear hb hbox hg; have hcz6_0 : w5.cell? ⟨gb126, 0, none⟩ = some (.int .i8 0) := (blk_cell BK126.out 0).trans rfl; have hcz6_1 : w5.cell? ⟨gb126, 1, none⟩ = some (.int .i8 0) := (blk_cell BK126.out 1).trans rfl; have hcz6_2 : w5.cell? ⟨gb126, 2, none⟩ = some (.int .i8 0) := (blk_cell BK126.out 2).trans rfl; have hcz6_3 : w5.cell? ⟨gb126, 3, none⟩ = some (.int .i8 0) := (blk_cell BK126.out 3).trans rfl; have hcz6_4 : w5.cell? ⟨gb126, 4, none⟩ = some (.int .i64 0) := (blk_cell BK126.out 4).trans rfl; have hfz6_0 := blk_frozen BK126.out 0; have hfz6_1 := blk_frozen BK126.out 1; have hfz6_2 := blk_frozen BK126.out 2; have hfz6_3 := blk_frozen BK126.out 3; have hfz6_4 := blk_frozen BK126.out 4))
 (try simp only [Act.put, List.setIfInBounds_toArray, List.set_cons_zero, List.set_cons_succ])
 go_cut [8] (fun v8 wc => ∃ (kq : Nat) (x8_2 : Bool), v8 = .bool x8_2 ∧ Aside0 (touch_Alone.j0 kq a0 t121 x8_2 t121 t122 t123 t124 t125 = some r) ∧ Aside0 (kq ≤ k) ∧ Aside0 (wc.heap[gb126]? = some (.cells #[.int .i8 t121, .int .i8 t122, .int .i8 t123, .int .i8 t124, .int .i64 t125] 40 (0, 0))) ∧ Aside0 (Below w.heap.size w wc))
 case first =>
  have H := HC3.out
  clear HC3
  by_cases c7 : t121 = (-1)
  ·rw [if_pos c7] at H
   have c7b0 : (t121 == (-1)) = true := beq_iff_eq.mpr c7
   have c7b1 : (t121 != (-1)) = false := bne_eq_false_iff_eq.mpr c7
   clear c7
   (first | rw [c7b0] | (simp only [i64_w, i32_w]; rw [c7b0]) | skip)
   have H' := Aside0.mk H
   clear H
   go_wp2
   go_meet
   case rel => exact ⟨_, ((t121 == (-1))), (by first | rfl | (simp; done) | (simp [*]; done)), H', ⟨by first | omega | exact Nat.le_refl _⟩, ⟨by (with_reducible repeat (first | refine blk_drewN ?_ _ | refine blk_drew ?_ | refine blk_alloc ?_ _)); refine blk_put (cs := #[.int .i8 t121, .int .i8 t122, .int .i8 t123, .int .i8 t124, .int .i64 0]) ?_ 4 _ rfl; (with_reducible repeat (first | refine blk_drewN ?_ _ | refine blk_drew ?_ | refine blk_alloc ?_ _)); refine blk_put (cs := #[.int .i8 t121, .int .i8 t122, .int .i8 t123, .int .i8 0, .int .i64 0]) ?_ 3 _ rfl; (with_reducible repeat (first | refine blk_drewN ?_ _ | refine blk_drew ?_ | refine blk_alloc ?_ _)); refine blk_put (cs := #[.int .i8 t121, .int .i8 t122, .int .i8 0, .int .i8 0, .int .i64 0]) ?_ 2 _ rfl; (with_reducible repeat (first | refine blk_drewN ?_ _ | refine blk_drew ?_ | refine blk_alloc ?_ _)); refine blk_put (cs := #[.int .i8 t121, .int .i8 0, .int .i8 0, .int .i8 0, .int .i64 0]) ?_ 1 _ rfl; (with_reducible repeat (first | refine blk_drewN ?_ _ | refine blk_drew ?_ | refine blk_alloc ?_ _)); refine blk_put (cs := #[.int .i8 0, .int .i8 0, .int .i8 0, .int .i8 0, .int .i64 0]) ?_ 0 _ rfl; (with_reducible repeat (first | refine blk_drewN ?_ _ | refine blk_drew ?_ | refine blk_alloc ?_ _)); exact BK126.out⟩, ⟨by repeat (first | (with_reducible first | exact HB.out | apply below_alloc | apply pw_below_drewN | apply below_drew1 | refine below_set ?_ GE126.out) | exact HB.out)⟩⟩
  ·rw [if_neg c7] at H
   have c7b0 : (t121 == (-1)) = false := beq_eq_false_iff_ne.mpr c7
   have c7b1 : (t121 != (-1)) = true := bne_iff_ne.mpr c7
   (first | rw [c7b0] | (simp only [i64_w, i32_w]; rw [c7b0]) | skip)
   have H' := Aside0.mk H
   clear H
   go_wp2
   go_meet
   case rel => exact ⟨_, ((t121 == 16)), (by first | rfl | (simp; done) | (simp [*]; done)), H', ⟨by first | omega | exact Nat.le_refl _⟩, ⟨by (with_reducible repeat (first | refine blk_drewN ?_ _ | refine blk_drew ?_ | refine blk_alloc ?_ _)); refine blk_put (cs := #[.int .i8 t121, .int .i8 t122, .int .i8 t123, .int .i8 t124, .int .i64 0]) ?_ 4 _ rfl; (with_reducible repeat (first | refine blk_drewN ?_ _ | refine blk_drew ?_ | refine blk_alloc ?_ _)); refine blk_put (cs := #[.int .i8 t121, .int .i8 t122, .int .i8 t123, .int .i8 0, .int .i64 0]) ?_ 3 _ rfl; (with_reducible repeat (first | refine blk_drewN ?_ _ | refine blk_drew ?_ | refine blk_alloc ?_ _)); refine blk_put (cs := #[.int .i8 t121, .int .i8 t122, .int .i8 0, .int .i8 0, .int .i64 0]) ?_ 2 _ rfl; (with_reducible repeat (first | refine blk_drewN ?_ _ | refine blk_drew ?_ | refine blk_alloc ?_ _)); refine blk_put (cs := #[.int .i8 t121, .int .i8 0, .int .i8 0, .int .i8 0, .int .i64 0]) ?_ 1 _ rfl; (with_reducible repeat (first | refine blk_drewN ?_ _ | refine blk_drew ?_ | refine blk_alloc ?_ _)); refine blk_put (cs := #[.int .i8 0, .int .i8 0, .int .i8 0, .int .i8 0, .int .i64 0]) ?_ 0 _ rfl; (with_reducible repeat (first | refine blk_drewN ?_ _ | refine blk_drew ?_ | refine blk_alloc ?_ _)); exact BK126.out⟩, ⟨by repeat (first | (with_reducible first | exact HB.out | apply below_alloc | apply pw_below_drewN | apply below_drew1 | refine below_set ?_ GE126.out) | exact HB.out)⟩⟩
 case rest =>
  clear HC3
  try clear c1
  try clear p2
  try clear c7
  try clear c7b0
  try clear c7b1
  try clear hcz6_0
  try clear hcz6_1
  try clear hcz6_2
  try clear hcz6_3
  try clear hcz6_4
  try clear hfz6_0
  try clear hfz6_1
  try clear hfz6_2
  try clear hfz6_3
  try clear hfz6_4
  obtain ⟨kq, x8_2, rfl, HA, HJ2, BK126, HB⟩ := hcut
  cases kq with
  | zero => exact absurd HA.out (by simp [touch_Alone.j0])
  | succ kj2 =>
   have H := HA.out
   clear HA
   simp only [touch_Alone.j0] at H
   by_cases c8 : x8_2 = true
   ·subst c8
    have H1 : (some true) = some r := by rw [if_pos rfl] at H; exact H
    clear H
    have H := H1
    clear H1
    obtain rfl := Option.some.inj H
    go_wp2
    go_ret
    exact ⟨by first | rfl | (simp [errW_none, errW_some] <;> rfl) | (simp [*, errW_none, errW_some] <;> rfl), by repeat (first | (with_reducible first | exact HB.out | apply below_alloc | apply pw_below_drewN | apply below_drew1 | refine below_set ?_ GE126.out) | exact HB.out)⟩
   ·replace c8 := Bool.eq_false_iff.mpr c8
    subst c8
    have H1 : (if t121 = 19 then (touch_Alone.j1 kj2 a0 t121 (t121 == 19) t121 t122 t123 t124 t125) else (touch_Alone.j1 kj2 a0 t121 (t121 == 17) t121 t122 t123 t124 t125)) = some r := by rw [if_neg (show ¬ (false = true) by decide)] at H; exact H
    clear H
    have H := H1
    clear H1
    have HC9 := Aside0.mk H
    clear H
    go_upto_if 11 with (fail)
    go_cut [11] (fun v11 wc => ∃ (kq : Nat) (x11_8 : Bool), v11 = .bool x11_8 ∧ Aside0 (touch_Alone.j1 kq a0 t121 x11_8 t121 t122 t123 t124 t125 = some r) ∧ Aside0 (kq ≤ kj2) ∧ Aside0 (wc.heap[gb126]? = some (.cells #[.int .i8 t121, .int .i8 t122, .int .i8 t123, .int .i8 t124, .int .i64 t125] 40 (0, 0))) ∧ Aside0 (Below w.heap.size w wc))
    case first =>
     have H := HC9.out
     clear HC9
     by_cases c10 : t121 = 19
     ·rw [if_pos c10] at H
      have c10b0 : (t121 == 19) = true := beq_iff_eq.mpr c10
      have c10b1 : (t121 != 19) = false := bne_eq_false_iff_eq.mpr c10
      clear c10
      (first | rw [c10b0] | (simp only [i64_w, i32_w]; rw [c10b0]) | skip)
      have H' := Aside0.mk H
      clear H
      go_wp2
      go_meet
      case rel => exact ⟨_, ((t121 == 19)), (by first | rfl | (simp; done) | (simp [*]; done)), H', ⟨by have := HJ2.out; first | omega | exact Nat.le_refl _⟩, ⟨by (with_reducible repeat (first | refine blk_drewN ?_ _ | refine blk_drew ?_ | refine blk_alloc ?_ _)); exact BK126.out⟩, ⟨by repeat (first | (with_reducible first | exact HB.out | apply below_alloc | apply pw_below_drewN | apply below_drew1 | refine below_set ?_ GE126.out) | exact HB.out)⟩⟩
     ·rw [if_neg c10] at H
      have c10b0 : (t121 == 19) = false := beq_eq_false_iff_ne.mpr c10
      have c10b1 : (t121 != 19) = true := bne_iff_ne.mpr c10
      (first | rw [c10b0] | (simp only [i64_w, i32_w]; rw [c10b0]) | skip)
      have H' := Aside0.mk H
      clear H
      go_wp2
      go_meet
      case rel => exact ⟨_, ((t121 == 17)), (by first | rfl | (simp; done) | (simp [*]; done)), H', ⟨by have := HJ2.out; first | omega | exact Nat.le_refl _⟩, ⟨by (with_reducible repeat (first | refine blk_drewN ?_ _ | refine blk_drew ?_ | refine blk_alloc ?_ _)); exact BK126.out⟩, ⟨by repeat (first | (with_reducible first | exact HB.out | apply below_alloc | apply pw_below_drewN | apply below_drew1 | refine below_set ?_ GE126.out) | exact HB.out)⟩⟩
    case rest =>
     clear HC9
     try clear c1
     try clear p2
     try clear c7
     try clear c7b0
     try clear c7b1
     try clear c8
     try clear c10
     try clear c10b0
     try clear c10b1
     try clear hcz6_0
     try clear hcz6_1
     try clear hcz6_2
     try clear hcz6_3
     try clear hcz6_4
     try clear hfz6_0
     try clear hfz6_1
     try clear hfz6_2
     try clear hfz6_3
     try clear hfz6_4
     try clear p2
     obtain ⟨kq, x11_8, rfl, HA, HJ8, BK126, HB⟩ := hcut
     cases kq with
     | zero => exact absurd HA.out (by simp [touch_Alone.j1])
     | succ kj8 =>
      have H := HA.out
      clear HA
      simp only [touch_Alone.j1] at H
      by_cases c11 : x11_8 = true
      ·subst c11
       have H1 : (some false) = some r := by rw [if_pos rfl] at H; exact H
       clear H
       have H := H1
       clear H1
       obtain rfl := Option.some.inj H
       go_wp2
       go_ret
       exact ⟨by first | rfl | (simp [errW_none, errW_some] <;> rfl) | (simp [*, errW_none, errW_some] <;> rfl), by repeat (first | (with_reducible first | exact HB.out | apply below_alloc | apply pw_below_drewN | apply below_drew1 | refine below_set ?_ GE126.out) | exact HB.out)⟩
      ·replace c11 := Bool.eq_false_iff.mpr c11
       subst c11
       have H1 : (if t121 = 18 then (some (t123 == 15)) else ((touch_Links.f kj8 a0).bind fun t127 => (some t127))) = some r := by rw [if_neg (show ¬ (false = true) by decide)] at H; exact H
       clear H
       have H := H1
       clear H1
       by_cases c12 : t121 = 18
       ·rw [if_pos c12] at H
        have c12b0 : (t121 == 18) = true := beq_iff_eq.mpr c12
        have c12b1 : (t121 != 18) = false := bne_eq_false_iff_eq.mpr c12
        clear c12
        obtain rfl := Option.some.inj H
        have hcz13_0 : wc.cell? ⟨gb126, 0, none⟩ = some (.int .i8 t121) := (blk_cell BK126.out 0).trans rfl
        have hcz13_1 : wc.cell? ⟨gb126, 1, none⟩ = some (.int .i8 t122) := (blk_cell BK126.out 1).trans rfl
        have hcz13_2 : wc.cell? ⟨gb126, 2, none⟩ = some (.int .i8 t123) := (blk_cell BK126.out 2).trans rfl
        have hcz13_3 : wc.cell? ⟨gb126, 3, none⟩ = some (.int .i8 t124) := (blk_cell BK126.out 3).trans rfl
        have hcz13_4 : wc.cell? ⟨gb126, 4, none⟩ = some (.int .i64 t125) := (blk_cell BK126.out 4).trans rfl
        have hfz13_0 := blk_frozen BK126.out 0
        have hfz13_1 := blk_frozen BK126.out 1
        have hfz13_2 := blk_frozen BK126.out 2
        have hfz13_3 := blk_frozen BK126.out 3
        have hfz13_4 := blk_frozen BK126.out 4
        go_wp2
        go_ret
        exact ⟨by first | rfl | (simp [errW_none, errW_some] <;> rfl) | (simp [*, errW_none, errW_some] <;> rfl), by repeat (first | (with_reducible first | exact HB.out | apply below_alloc | apply pw_below_drewN | apply below_drew1 | refine below_set ?_ GE126.out) | exact HB.out)⟩
       ·rw [if_neg c12] at H
        have c12b0 : (t121 == 18) = false := beq_eq_false_iff_ne.mpr c12
        have c12b1 : (t121 != 18) = true := bne_iff_ne.mpr c12
        replace H := Option.bind_eq_some_iff.mp H
        obtain ⟨t127, A140, H⟩ := H
        replace H : (some t127) = some r := H
        have A14 := Aside0.mk A140
        clear A140
        obtain rfl := Option.some.inj H
        go_wp2_with (first | ((with_reducible refine gate_callee (f := 20) rfl ?_); refine goesL_ (some 20) rfl rfl Try.func20 (by kernel_rfl) rfl #[.int .u32 a0] rfl (by (try simp only [List.map_toArray, List.map_cons, List.map_nil]); first | done | rfl | (simp only [List.length_drop, List.length_take]; rfl)) ?_; (with_reducible refine (touch_Links.calls kj8 a0 t127 _ A14.out).mono ?_); rintro e w15 ⟨rfl, hb⟩; refine ⟨_, rfl, ?_⟩; have n0_ := Aside0.mk (blk_below (g := gb126) (o := .cells #[.int .i8 t121, .int .i8 t122, .int .i8 t123, .int .i8 t124, .int .i64 t125] 40 (0, 0)) (by (with_reducible repeat (first | refine blk_drewN ?_ _ | refine blk_drew ?_ | refine blk_alloc ?_ _)); exact BK126.out) hb); have n1_ := Aside0.mk (below_step (by repeat (first | (with_reducible first | exact HB.out | apply below_alloc | apply pw_below_drewN | apply below_drew1 | refine below_set ?_ GE126.out) | exact HB.out)) hb); clear BK126; clear HB; have BK126 := n0_; have HB := n1_; clear n0_ n1_; (try clear hb); (try clear hb2); (try clear hk); (try clear hi)))
        go_ret
        exact ⟨by first | rfl | (simp [errW_none, errW_some] <;> rfl) | (simp [*, errW_none, errW_some] <;> rfl), by repeat (first | (with_reducible first | exact HB.out | apply below_alloc | apply pw_below_drewN | apply below_drew1 | refine below_set ?_ GE126.out) | exact HB.out)⟩

/-! ### isa_Ends: function 11 -/
def isa_Ends.f (k : Nat) (a0 : Int) : Option (Bool) := (isa_Decode.f k a0).bind fun bt128 => (if bt128.1 = (-1) then (some true) else (if bt128.1 = 0 then (some true) else (if bt128.1 = 15 then (some true) else (if bt128.1 = 16 then (some true) else (if bt128.1 = 17 then (some true) else (if bt128.1 = 18 then (some true) else (if bt128.1 = 19 then (some true) else (if bt128.1 = 21 then (some true) else (some false)))))))))
theorem isa_Ends.mono : ∀ a0 k, LeO (isa_Ends.f k a0) (isa_Ends.f (k + 1) a0) := by
 intro a0 k
 unfold isa_Ends.f
 repeat' first
   | (with_reducible exact isa_Decode.mono _ _)
   | (with_reducible exact LeO.refl _)
   | (with_reducible exact LeO.none _)
   | (with_reducible refine LeO.ite ?_ ?_)
   | (with_reducible refine LeO.bind ?_ (fun _ => ?_))
   | exact isa_Decode.mono _ _
   | exact LeO.none _
   | refine LeO.ite ?_ ?_
   | refine LeO.bind ?_ (fun _ => ?_)
set_option maxHeartbeats 8000000 in
set_option maxRecDepth 100000 in
theorem isa_Ends.calls (k : Nat) (a0 : Int) (r : Bool) (w : World) (h : isa_Ends.f k a0 = some r) :
  Calls Try.prog 11 #[.int .u32 a0] w fun e w' => e = .returned (.bool r) ∧ Below w.heap.size w w' := by
 have hfd40_0 : ∀ (v0 v1 v2 v3 v4 : Value) (W : World), (Instr.field 40 (.agg #[v0, v1, v2, v3, v4]) 0).run Try.prog W = .ok v0 W := fun _ _ _ _ _ _ => by kernel_rfl
 have HB := Aside0.mk (Below.refl w.heap.size w)
 have H : ((isa_Decode.f k a0).bind fun bt128 => (if bt128.1 = (-1) then (some true) else (if bt128.1 = 0 then (some true) else (if bt128.1 = 15 then (some true) else (if bt128.1 = 16 then (some true) else (if bt128.1 = 17 then (some true) else (if bt128.1 = 18 then (some true) else (if bt128.1 = 19 then (some true) else (if bt128.1 = 21 then (some true) else (some false)))))))))) = some r := h
 clear h
 replace H := Option.bind_eq_some_iff.mp H
 obtain ⟨⟨t128, t129, t130, t131, t132⟩, A20, H⟩ := H
 replace H : (if t128 = (-1) then (some true) else (if t128 = 0 then (some true) else (if t128 = 15 then (some true) else (if t128 = 16 then (some true) else (if t128 = 17 then (some true) else (if t128 = 18 then (some true) else (if t128 = 19 then (some true) else (if t128 = 21 then (some true) else (some false))))))))) = some r := H
 have A2 := Aside0.mk A20
 clear A20
 by_cases c3 : t128 = (-1)
 ·rw [if_pos c3] at H
  have c3b0 : (t128 == (-1)) = true := beq_iff_eq.mpr c3
  have c3b1 : (t128 != (-1)) = false := bne_eq_false_iff_eq.mpr c3
  clear c3
  obtain rfl := Option.some.inj H
  go_enter Try.func11, Try.ntmps11
  go_wp2_with (first | ((with_reducible refine gate_callee (f := 12) rfl ?_); refine goesL_ (some 4) rfl rfl Try.func12 (by kernel_rfl) rfl #[.int .u32 a0] rfl (by (try simp only [List.map_toArray, List.map_cons, List.map_nil]); first | done | rfl | (simp only [List.length_drop, List.length_take]; rfl)) ?_; (with_reducible refine (isa_Decode.calls k a0 t128 t129 t130 t131 t132 _ A2.out).mono ?_); rintro e w4 ⟨rfl, hb⟩; refine ⟨_, rfl, ?_⟩; have n0_ := Aside0.mk (below_step (by repeat (first | (with_reducible first | exact HB.out | apply below_alloc | apply pw_below_drewN | apply below_drew1) | exact HB.out)) hb); clear HB; have HB := n0_; clear n0_; (try clear hb); (try clear hb2); (try clear hk); (try clear hi)))
  go_ret
  exact ⟨by first | rfl | (simp [errW_none, errW_some] <;> rfl) | (simp [*, errW_none, errW_some] <;> rfl), by repeat (first | (with_reducible first | exact HB.out | apply below_alloc | apply pw_below_drewN | apply below_drew1) | exact HB.out)⟩
 ·rw [if_neg c3] at H
  have c3b0 : (t128 == (-1)) = false := beq_eq_false_iff_ne.mpr c3
  have c3b1 : (t128 != (-1)) = true := bne_iff_ne.mpr c3
  by_cases c5 : t128 = 0
  ·rw [if_pos c5] at H
   have c5b0 : (t128 == 0) = true := beq_iff_eq.mpr c5
   have c5b1 : (t128 != 0) = false := bne_eq_false_iff_eq.mpr c5
   clear c5
   obtain rfl := Option.some.inj H
   go_enter Try.func11, Try.ntmps11
   go_wp2_with (first | ((with_reducible refine gate_callee (f := 12) rfl ?_); refine goesL_ (some 4) rfl rfl Try.func12 (by kernel_rfl) rfl #[.int .u32 a0] rfl (by (try simp only [List.map_toArray, List.map_cons, List.map_nil]); first | done | rfl | (simp only [List.length_drop, List.length_take]; rfl)) ?_; (with_reducible refine (isa_Decode.calls k a0 t128 t129 t130 t131 t132 _ A2.out).mono ?_); rintro e w6 ⟨rfl, hb⟩; refine ⟨_, rfl, ?_⟩; have n0_ := Aside0.mk (below_step (by repeat (first | (with_reducible first | exact HB.out | apply below_alloc | apply pw_below_drewN | apply below_drew1) | exact HB.out)) hb); clear HB; have HB := n0_; clear n0_; (try clear hb); (try clear hb2); (try clear hk); (try clear hi)))
   go_ret
   exact ⟨by first | rfl | (simp [errW_none, errW_some] <;> rfl) | (simp [*, errW_none, errW_some] <;> rfl), by repeat (first | (with_reducible first | exact HB.out | apply below_alloc | apply pw_below_drewN | apply below_drew1) | exact HB.out)⟩
  ·rw [if_neg c5] at H
   have c5b0 : (t128 == 0) = false := beq_eq_false_iff_ne.mpr c5
   have c5b1 : (t128 != 0) = true := bne_iff_ne.mpr c5
   by_cases c7 : t128 = 15
   ·rw [if_pos c7] at H
    have c7b0 : (t128 == 15) = true := beq_iff_eq.mpr c7
    have c7b1 : (t128 != 15) = false := bne_eq_false_iff_eq.mpr c7
    clear c7
    obtain rfl := Option.some.inj H
    go_enter Try.func11, Try.ntmps11
    go_wp2_with (first | ((with_reducible refine gate_callee (f := 12) rfl ?_); refine goesL_ (some 4) rfl rfl Try.func12 (by kernel_rfl) rfl #[.int .u32 a0] rfl (by (try simp only [List.map_toArray, List.map_cons, List.map_nil]); first | done | rfl | (simp only [List.length_drop, List.length_take]; rfl)) ?_; (with_reducible refine (isa_Decode.calls k a0 t128 t129 t130 t131 t132 _ A2.out).mono ?_); rintro e w8 ⟨rfl, hb⟩; refine ⟨_, rfl, ?_⟩; have n0_ := Aside0.mk (below_step (by repeat (first | (with_reducible first | exact HB.out | apply below_alloc | apply pw_below_drewN | apply below_drew1) | exact HB.out)) hb); clear HB; have HB := n0_; clear n0_; (try clear hb); (try clear hb2); (try clear hk); (try clear hi)))
    go_ret
    exact ⟨by first | rfl | (simp [errW_none, errW_some] <;> rfl) | (simp [*, errW_none, errW_some] <;> rfl), by repeat (first | (with_reducible first | exact HB.out | apply below_alloc | apply pw_below_drewN | apply below_drew1) | exact HB.out)⟩
   ·rw [if_neg c7] at H
    have c7b0 : (t128 == 15) = false := beq_eq_false_iff_ne.mpr c7
    have c7b1 : (t128 != 15) = true := bne_iff_ne.mpr c7
    by_cases c9 : t128 = 16
    ·rw [if_pos c9] at H
     have c9b0 : (t128 == 16) = true := beq_iff_eq.mpr c9
     have c9b1 : (t128 != 16) = false := bne_eq_false_iff_eq.mpr c9
     clear c9
     obtain rfl := Option.some.inj H
     go_enter Try.func11, Try.ntmps11
     go_wp2_with (first | ((with_reducible refine gate_callee (f := 12) rfl ?_); refine goesL_ (some 4) rfl rfl Try.func12 (by kernel_rfl) rfl #[.int .u32 a0] rfl (by (try simp only [List.map_toArray, List.map_cons, List.map_nil]); first | done | rfl | (simp only [List.length_drop, List.length_take]; rfl)) ?_; (with_reducible refine (isa_Decode.calls k a0 t128 t129 t130 t131 t132 _ A2.out).mono ?_); rintro e w10 ⟨rfl, hb⟩; refine ⟨_, rfl, ?_⟩; have n0_ := Aside0.mk (below_step (by repeat (first | (with_reducible first | exact HB.out | apply below_alloc | apply pw_below_drewN | apply below_drew1) | exact HB.out)) hb); clear HB; have HB := n0_; clear n0_; (try clear hb); (try clear hb2); (try clear hk); (try clear hi)))
     go_ret
     exact ⟨by first | rfl | (simp [errW_none, errW_some] <;> rfl) | (simp [*, errW_none, errW_some] <;> rfl), by repeat (first | (with_reducible first | exact HB.out | apply below_alloc | apply pw_below_drewN | apply below_drew1) | exact HB.out)⟩
    ·rw [if_neg c9] at H
     have c9b0 : (t128 == 16) = false := beq_eq_false_iff_ne.mpr c9
     have c9b1 : (t128 != 16) = true := bne_iff_ne.mpr c9
     by_cases c11 : t128 = 17
     ·rw [if_pos c11] at H
      have c11b0 : (t128 == 17) = true := beq_iff_eq.mpr c11
      have c11b1 : (t128 != 17) = false := bne_eq_false_iff_eq.mpr c11
      clear c11
      obtain rfl := Option.some.inj H
      go_enter Try.func11, Try.ntmps11
      go_wp2_with (first | ((with_reducible refine gate_callee (f := 12) rfl ?_); refine goesL_ (some 4) rfl rfl Try.func12 (by kernel_rfl) rfl #[.int .u32 a0] rfl (by (try simp only [List.map_toArray, List.map_cons, List.map_nil]); first | done | rfl | (simp only [List.length_drop, List.length_take]; rfl)) ?_; (with_reducible refine (isa_Decode.calls k a0 t128 t129 t130 t131 t132 _ A2.out).mono ?_); rintro e w12 ⟨rfl, hb⟩; refine ⟨_, rfl, ?_⟩; have n0_ := Aside0.mk (below_step (by repeat (first | (with_reducible first | exact HB.out | apply below_alloc | apply pw_below_drewN | apply below_drew1) | exact HB.out)) hb); clear HB; have HB := n0_; clear n0_; (try clear hb); (try clear hb2); (try clear hk); (try clear hi)))
      go_ret
      exact ⟨by first | rfl | (simp [errW_none, errW_some] <;> rfl) | (simp [*, errW_none, errW_some] <;> rfl), by repeat (first | (with_reducible first | exact HB.out | apply below_alloc | apply pw_below_drewN | apply below_drew1) | exact HB.out)⟩
     ·rw [if_neg c11] at H
      have c11b0 : (t128 == 17) = false := beq_eq_false_iff_ne.mpr c11
      have c11b1 : (t128 != 17) = true := bne_iff_ne.mpr c11
      by_cases c13 : t128 = 18
      ·rw [if_pos c13] at H
       have c13b0 : (t128 == 18) = true := beq_iff_eq.mpr c13
       have c13b1 : (t128 != 18) = false := bne_eq_false_iff_eq.mpr c13
       clear c13
       obtain rfl := Option.some.inj H
       go_enter Try.func11, Try.ntmps11
       go_wp2_with (first | ((with_reducible refine gate_callee (f := 12) rfl ?_); refine goesL_ (some 4) rfl rfl Try.func12 (by kernel_rfl) rfl #[.int .u32 a0] rfl (by (try simp only [List.map_toArray, List.map_cons, List.map_nil]); first | done | rfl | (simp only [List.length_drop, List.length_take]; rfl)) ?_; (with_reducible refine (isa_Decode.calls k a0 t128 t129 t130 t131 t132 _ A2.out).mono ?_); rintro e w14 ⟨rfl, hb⟩; refine ⟨_, rfl, ?_⟩; have n0_ := Aside0.mk (below_step (by repeat (first | (with_reducible first | exact HB.out | apply below_alloc | apply pw_below_drewN | apply below_drew1) | exact HB.out)) hb); clear HB; have HB := n0_; clear n0_; (try clear hb); (try clear hb2); (try clear hk); (try clear hi)))
       go_ret
       exact ⟨by first | rfl | (simp [errW_none, errW_some] <;> rfl) | (simp [*, errW_none, errW_some] <;> rfl), by repeat (first | (with_reducible first | exact HB.out | apply below_alloc | apply pw_below_drewN | apply below_drew1) | exact HB.out)⟩
      ·rw [if_neg c13] at H
       have c13b0 : (t128 == 18) = false := beq_eq_false_iff_ne.mpr c13
       have c13b1 : (t128 != 18) = true := bne_iff_ne.mpr c13
       by_cases c15 : t128 = 19
       ·rw [if_pos c15] at H
        have c15b0 : (t128 == 19) = true := beq_iff_eq.mpr c15
        have c15b1 : (t128 != 19) = false := bne_eq_false_iff_eq.mpr c15
        clear c15
        obtain rfl := Option.some.inj H
        go_enter Try.func11, Try.ntmps11
        go_wp2_with (first | ((with_reducible refine gate_callee (f := 12) rfl ?_); refine goesL_ (some 4) rfl rfl Try.func12 (by kernel_rfl) rfl #[.int .u32 a0] rfl (by (try simp only [List.map_toArray, List.map_cons, List.map_nil]); first | done | rfl | (simp only [List.length_drop, List.length_take]; rfl)) ?_; (with_reducible refine (isa_Decode.calls k a0 t128 t129 t130 t131 t132 _ A2.out).mono ?_); rintro e w16 ⟨rfl, hb⟩; refine ⟨_, rfl, ?_⟩; have n0_ := Aside0.mk (below_step (by repeat (first | (with_reducible first | exact HB.out | apply below_alloc | apply pw_below_drewN | apply below_drew1) | exact HB.out)) hb); clear HB; have HB := n0_; clear n0_; (try clear hb); (try clear hb2); (try clear hk); (try clear hi)))
        go_ret
        exact ⟨by first | rfl | (simp [errW_none, errW_some] <;> rfl) | (simp [*, errW_none, errW_some] <;> rfl), by repeat (first | (with_reducible first | exact HB.out | apply below_alloc | apply pw_below_drewN | apply below_drew1) | exact HB.out)⟩
       ·rw [if_neg c15] at H
        have c15b0 : (t128 == 19) = false := beq_eq_false_iff_ne.mpr c15
        have c15b1 : (t128 != 19) = true := bne_iff_ne.mpr c15
        by_cases c17 : t128 = 21
        ·rw [if_pos c17] at H
         have c17b0 : (t128 == 21) = true := beq_iff_eq.mpr c17
         have c17b1 : (t128 != 21) = false := bne_eq_false_iff_eq.mpr c17
         clear c17
         obtain rfl := Option.some.inj H
         go_enter Try.func11, Try.ntmps11
         go_wp2_with (first | ((with_reducible refine gate_callee (f := 12) rfl ?_); refine goesL_ (some 4) rfl rfl Try.func12 (by kernel_rfl) rfl #[.int .u32 a0] rfl (by (try simp only [List.map_toArray, List.map_cons, List.map_nil]); first | done | rfl | (simp only [List.length_drop, List.length_take]; rfl)) ?_; (with_reducible refine (isa_Decode.calls k a0 t128 t129 t130 t131 t132 _ A2.out).mono ?_); rintro e w18 ⟨rfl, hb⟩; refine ⟨_, rfl, ?_⟩; have n0_ := Aside0.mk (below_step (by repeat (first | (with_reducible first | exact HB.out | apply below_alloc | apply pw_below_drewN | apply below_drew1) | exact HB.out)) hb); clear HB; have HB := n0_; clear n0_; (try clear hb); (try clear hb2); (try clear hk); (try clear hi)))
         go_ret
         exact ⟨by first | rfl | (simp [errW_none, errW_some] <;> rfl) | (simp [*, errW_none, errW_some] <;> rfl), by repeat (first | (with_reducible first | exact HB.out | apply below_alloc | apply pw_below_drewN | apply below_drew1) | exact HB.out)⟩
        ·rw [if_neg c17] at H
         have c17b0 : (t128 == 21) = false := beq_eq_false_iff_ne.mpr c17
         have c17b1 : (t128 != 21) = true := bne_iff_ne.mpr c17
         obtain rfl := Option.some.inj H
         go_enter Try.func11, Try.ntmps11
         go_wp2_with (first | ((with_reducible refine gate_callee (f := 12) rfl ?_); refine goesL_ (some 4) rfl rfl Try.func12 (by kernel_rfl) rfl #[.int .u32 a0] rfl (by (try simp only [List.map_toArray, List.map_cons, List.map_nil]); first | done | rfl | (simp only [List.length_drop, List.length_take]; rfl)) ?_; (with_reducible refine (isa_Decode.calls k a0 t128 t129 t130 t131 t132 _ A2.out).mono ?_); rintro e w19 ⟨rfl, hb⟩; refine ⟨_, rfl, ?_⟩; have n0_ := Aside0.mk (below_step (by repeat (first | (with_reducible first | exact HB.out | apply below_alloc | apply pw_below_drewN | apply below_drew1) | exact HB.out)) hb); clear HB; have HB := n0_; clear n0_; (try clear hb); (try clear hb2); (try clear hk); (try clear hi)))
         go_ret
         exact ⟨by first | rfl | (simp [errW_none, errW_some] <;> rfl) | (simp [*, errW_none, errW_some] <;> rfl), by repeat (first | (with_reducible first | exact HB.out | apply below_alloc | apply pw_below_drewN | apply below_drew1) | exact HB.out)⟩

end Go.Proofs.Ytidcijicehgfkaa.PK
