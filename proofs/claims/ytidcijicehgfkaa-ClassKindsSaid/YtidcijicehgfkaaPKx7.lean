-- Printed by this session's own program (wip/tools/hybrid.sh) over its own contracts
import Derived.Test.YtidcijicehgfkaaPKx0
import Derived.Test.YtidcijicehgfkaaPKx6
namespace Go.Proofs.Ytidcijicehgfkaa.PK
open Go.RowKit Go.Proofs.YtidcijicehgfkaaW.PrintWords Go.Proofs.YtidcijicehgfkaaW.PrintLast Go.Proofs.YtidcijicehgfkaaW.PrintMore
attribute [local go_sem] max2_int min2_int max_two min_two max_three min_three max_four min_four   -- for this text's walks alone
set_option linter.unusedVariables false
set_option linter.unusedSimpArgs false

/-! ### pleatref02_register: function 42 -/
def pleatref02_register.f (a0 : Bool) (a1 : Int) : Option (Bool) := if a0 = true then (if a1 ≥ 0 then (some (decide (a1 < 16))) else (some false)) else (some (a1 == 0))
set_option maxHeartbeats 8000000 in
set_option maxRecDepth 100000 in
theorem pleatref02_register.calls (a0 : Bool) (a1 : Int) (r : Bool) (w : World) (h : pleatref02_register.f a0 a1 = some r) :
  Calls Try.prog 42 #[.bool a0, .int .i8 a1] w fun e w' => e = .returned (.bool r) ∧ Drawn0 w w' := by
 have H : (if a0 = true then (if a1 ≥ 0 then (some (decide (a1 < 16))) else (some false)) else (some (a1 == 0))) = some r := h
 clear h
 by_cases c3 : a0 = true
 ·subst c3
  have H1 : (if a1 ≥ 0 then (some (decide (a1 < 16))) else (some false)) = some r := by rw [if_pos rfl] at H; exact H
  clear H
  have H := H1
  clear H1
  by_cases c4 : a1 ≥ 0
  ·rw [if_pos c4] at H
   have c4b0 : decide (0 ≤ a1) = true := decide_eq_true c4
   clear c4
   obtain rfl := Option.some.inj H
   go_enter Try.func42, Try.ntmps42
   go_wp2
   go_ret
   exact ⟨by first | rfl | (simp; done) | (simp [*]; done), by repeat (first | exact Drawn0.refl _ | apply Drawn0.step)⟩
  ·rw [if_neg c4] at H
   have c4b0 : decide (0 ≤ a1) = false := decide_eq_false c4
   clear c4
   obtain rfl := Option.some.inj H
   go_enter Try.func42, Try.ntmps42
   go_wp2
   go_ret
   exact ⟨by first | rfl | (simp; done) | (simp [*]; done), by repeat (first | exact Drawn0.refl _ | apply Drawn0.step)⟩
 ·replace c3 := Bool.eq_false_iff.mpr c3
  subst c3
  have H1 : (some (a1 == 0)) = some r := by rw [if_neg (show ¬ (false = true) by decide)] at H; exact H
  clear H
  have H := H1
  clear H1
  obtain rfl := Option.some.inj H
  go_enter Try.func42, Try.ntmps42
  go_wp2
  go_ret
  exact ⟨by first | rfl | (simp; done) | (simp [*]; done), by repeat (first | exact Drawn0.refl _ | apply Drawn0.step)⟩

/-! ### pleatref02_number: function 43 -/
def pleatref02_number.f (a0_0 : Bool) (a0_1 : Bool) (a0_2 : Bool) (a0_3 : Bool) (a0_4 : Bool) (a1 : Int) : Option (Bool) := if a0_3 = true then (if a0_4 = true then (if a1 ≥ 0 then (some (decide (a1 < 16384))) else (some false)) else (if a1 ≥ (-16384) then (some (decide (a1 ≤ 16383))) else (some false))) else (some (a1 == 0))
set_option maxHeartbeats 8000000 in
set_option maxRecDepth 100000 in
theorem pleatref02_number.calls (a0_0 : Bool) (a0_1 : Bool) (a0_2 : Bool) (a0_3 : Bool) (a0_4 : Bool) (a1 : Int) (r : Bool) (w : World) (h : pleatref02_number.f a0_0 a0_1 a0_2 a0_3 a0_4 a1 = some r) :
  Calls Try.prog 43 #[.agg #[.bool a0_0, .bool a0_1, .bool a0_2, .bool a0_3, .bool a0_4], .int .i64 a1] w fun e w' => e = .returned (.bool r) ∧ Below w.heap.size w w' := by
 have hu57 := Try.underlying57
 have HB := Aside0.mk (Below.refl w.heap.size w)
 have H : (if a0_3 = true then (if a0_4 = true then (if a1 ≥ 0 then (some (decide (a1 < 16384))) else (some false)) else (if a1 ≥ (-16384) then (some (decide (a1 ≤ 16383))) else (some false))) else (some (a1 == 0))) = some r := h
 clear h
 by_cases c3 : a0_3 = true
 ·subst c3
  have H1 : (if a0_4 = true then (if a1 ≥ 0 then (some (decide (a1 < 16384))) else (some false)) else (if a1 ≥ (-16384) then (some (decide (a1 ≤ 16383))) else (some false))) = some r := by rw [if_pos rfl] at H; exact H
  clear H
  have H := H1
  clear H1
  by_cases c4 : a0_4 = true
  ·subst c4
   have H1 : (if a1 ≥ 0 then (some (decide (a1 < 16384))) else (some false)) = some r := by rw [if_pos rfl] at H; exact H
   clear H
   have H := H1
   clear H1
   by_cases c5 : a1 ≥ 0
   ·rw [if_pos c5] at H
    have c5b0 : decide (0 ≤ a1) = true := decide_eq_true c5
    clear c5
    obtain rfl := Option.some.inj H
    go_enter Try.func43, Try.ntmps43
    go_wp2_with (first | ((with_reducible refine gate_dst (N := 2) rfl ?_); refine box_event ?hg (N := 2) ?hd (cs := #[.bool a0_0, .bool a0_1, .bool a0_2, .bool true, .bool true]) (t := 57) ?hr ?_; (case hd => rfl); (case hg => rfl); (case hr => first | (go_simp; done) | (go_simp; rfl)); intro gb214 hg w6 hbox hb; have n0_ := Aside0.mk (below_step (by repeat (first | (with_reducible first | exact HB.out | apply below_alloc | apply pw_below_drewN | apply below_drew1) | exact HB.out)) hb); have n1_ := Aside0.mk (hbox); have n2_ := Aside0.mk ((by rw [hg]; exact (below_size (by repeat (first | (with_reducible first | exact HB.out | apply below_alloc | apply pw_below_drewN | apply below_drew1) | exact HB.out))) : w.heap.size ≤ gb214)); have n3_ := Aside0.mk ((by rw [hg]; exact (below_size (by repeat (first | (with_reducible first | exact HB.out | apply below_alloc | apply pw_below_drewN | apply below_drew1) | exact HB.out))) : w.heap.size ≤ gb214)); clear HB; have HB := n0_; have BK214 := n1_; have GW214 := n2_; have GE214 := n3_; clear n0_ n1_ n2_ n3_; clear hb hbox hg; have hcz7_0 : w6.cell? ⟨gb214, 0, none⟩ = some (.bool a0_0) := (blk_cell BK214.out 0).trans rfl; have hcz7_1 : w6.cell? ⟨gb214, 1, none⟩ = some (.bool a0_1) := (blk_cell BK214.out 1).trans rfl; have hcz7_2 : w6.cell? ⟨gb214, 2, none⟩ = some (.bool a0_2) := (blk_cell BK214.out 2).trans rfl; have hcz7_3 : w6.cell? ⟨gb214, 3, none⟩ = some (.bool true) := (blk_cell BK214.out 3).trans rfl; have hcz7_4 : w6.cell? ⟨gb214, 4, none⟩ = some (.bool true) := (blk_cell BK214.out 4).trans rfl; have hfz7_0 := blk_frozen BK214.out 0; have hfz7_1 := blk_frozen BK214.out 1; have hfz7_2 := blk_frozen BK214.out 2; have hfz7_3 := blk_frozen BK214.out 3; have hfz7_4 := blk_frozen BK214.out 4))
    go_ret
    exact ⟨by first | rfl | (simp [errW_none, errW_some] <;> rfl) | (simp [*, errW_none, errW_some] <;> rfl), by repeat (first | (with_reducible first | exact HB.out | apply below_alloc | apply pw_below_drewN | apply below_drew1 | refine below_set ?_ GE214.out) | exact HB.out)⟩
   ·rw [if_neg c5] at H
    have c5b0 : decide (0 ≤ a1) = false := decide_eq_false c5
    clear c5
    obtain rfl := Option.some.inj H
    go_enter Try.func43, Try.ntmps43
    go_wp2_with (first | ((with_reducible refine gate_dst (N := 2) rfl ?_); refine box_event ?hg (N := 2) ?hd (cs := #[.bool a0_0, .bool a0_1, .bool a0_2, .bool true, .bool true]) (t := 57) ?hr ?_; (case hd => rfl); (case hg => rfl); (case hr => first | (go_simp; done) | (go_simp; rfl)); intro gb214 hg w8 hbox hb; have n0_ := Aside0.mk (below_step (by repeat (first | (with_reducible first | exact HB.out | apply below_alloc | apply pw_below_drewN | apply below_drew1) | exact HB.out)) hb); have n1_ := Aside0.mk (hbox); have n2_ := Aside0.mk ((by rw [hg]; exact (below_size (by repeat (first | (with_reducible first | exact HB.out | apply below_alloc | apply pw_below_drewN | apply below_drew1) | exact HB.out))) : w.heap.size ≤ gb214)); have n3_ := Aside0.mk ((by rw [hg]; exact (below_size (by repeat (first | (with_reducible first | exact HB.out | apply below_alloc | apply pw_below_drewN | apply below_drew1) | exact HB.out))) : w.heap.size ≤ gb214)); clear HB; have HB := n0_; have BK214 := n1_; have GW214 := n2_; have GE214 := n3_; clear n0_ n1_ n2_ n3_; clear hb hbox hg; have hcz9_0 : w8.cell? ⟨gb214, 0, none⟩ = some (.bool a0_0) := (blk_cell BK214.out 0).trans rfl; have hcz9_1 : w8.cell? ⟨gb214, 1, none⟩ = some (.bool a0_1) := (blk_cell BK214.out 1).trans rfl; have hcz9_2 : w8.cell? ⟨gb214, 2, none⟩ = some (.bool a0_2) := (blk_cell BK214.out 2).trans rfl; have hcz9_3 : w8.cell? ⟨gb214, 3, none⟩ = some (.bool true) := (blk_cell BK214.out 3).trans rfl; have hcz9_4 : w8.cell? ⟨gb214, 4, none⟩ = some (.bool true) := (blk_cell BK214.out 4).trans rfl; have hfz9_0 := blk_frozen BK214.out 0; have hfz9_1 := blk_frozen BK214.out 1; have hfz9_2 := blk_frozen BK214.out 2; have hfz9_3 := blk_frozen BK214.out 3; have hfz9_4 := blk_frozen BK214.out 4))
    go_ret
    exact ⟨by first | rfl | (simp [errW_none, errW_some] <;> rfl) | (simp [*, errW_none, errW_some] <;> rfl), by repeat (first | (with_reducible first | exact HB.out | apply below_alloc | apply pw_below_drewN | apply below_drew1 | refine below_set ?_ GE214.out) | exact HB.out)⟩
  ·replace c4 := Bool.eq_false_iff.mpr c4
   subst c4
   have H1 : (if a1 ≥ (-16384) then (some (decide (a1 ≤ 16383))) else (some false)) = some r := by rw [if_neg (show ¬ (false = true) by decide)] at H; exact H
   clear H
   have H := H1
   clear H1
   by_cases c10 : a1 ≥ (-16384)
   ·rw [if_pos c10] at H
    have c10b0 : decide ((-16384) ≤ a1) = true := decide_eq_true c10
    clear c10
    obtain rfl := Option.some.inj H
    go_enter Try.func43, Try.ntmps43
    go_wp2_with (first | ((with_reducible refine gate_dst (N := 2) rfl ?_); refine box_event ?hg (N := 2) ?hd (cs := #[.bool a0_0, .bool a0_1, .bool a0_2, .bool true, .bool false]) (t := 57) ?hr ?_; (case hd => rfl); (case hg => rfl); (case hr => first | (go_simp; done) | (go_simp; rfl)); intro gb214 hg w11 hbox hb; have n0_ := Aside0.mk (below_step (by repeat (first | (with_reducible first | exact HB.out | apply below_alloc | apply pw_below_drewN | apply below_drew1) | exact HB.out)) hb); have n1_ := Aside0.mk (hbox); have n2_ := Aside0.mk ((by rw [hg]; exact (below_size (by repeat (first | (with_reducible first | exact HB.out | apply below_alloc | apply pw_below_drewN | apply below_drew1) | exact HB.out))) : w.heap.size ≤ gb214)); have n3_ := Aside0.mk ((by rw [hg]; exact (below_size (by repeat (first | (with_reducible first | exact HB.out | apply below_alloc | apply pw_below_drewN | apply below_drew1) | exact HB.out))) : w.heap.size ≤ gb214)); clear HB; have HB := n0_; have BK214 := n1_; have GW214 := n2_; have GE214 := n3_; clear n0_ n1_ n2_ n3_; clear hb hbox hg; have hcz12_0 : w11.cell? ⟨gb214, 0, none⟩ = some (.bool a0_0) := (blk_cell BK214.out 0).trans rfl; have hcz12_1 : w11.cell? ⟨gb214, 1, none⟩ = some (.bool a0_1) := (blk_cell BK214.out 1).trans rfl; have hcz12_2 : w11.cell? ⟨gb214, 2, none⟩ = some (.bool a0_2) := (blk_cell BK214.out 2).trans rfl; have hcz12_3 : w11.cell? ⟨gb214, 3, none⟩ = some (.bool true) := (blk_cell BK214.out 3).trans rfl; have hcz12_4 : w11.cell? ⟨gb214, 4, none⟩ = some (.bool false) := (blk_cell BK214.out 4).trans rfl; have hfz12_0 := blk_frozen BK214.out 0; have hfz12_1 := blk_frozen BK214.out 1; have hfz12_2 := blk_frozen BK214.out 2; have hfz12_3 := blk_frozen BK214.out 3; have hfz12_4 := blk_frozen BK214.out 4))
    go_ret
    exact ⟨by first | rfl | (simp [errW_none, errW_some] <;> rfl) | (simp [*, errW_none, errW_some] <;> rfl), by repeat (first | (with_reducible first | exact HB.out | apply below_alloc | apply pw_below_drewN | apply below_drew1 | refine below_set ?_ GE214.out) | exact HB.out)⟩
   ·rw [if_neg c10] at H
    have c10b0 : decide ((-16384) ≤ a1) = false := decide_eq_false c10
    clear c10
    obtain rfl := Option.some.inj H
    go_enter Try.func43, Try.ntmps43
    go_wp2_with (first | ((with_reducible refine gate_dst (N := 2) rfl ?_); refine box_event ?hg (N := 2) ?hd (cs := #[.bool a0_0, .bool a0_1, .bool a0_2, .bool true, .bool false]) (t := 57) ?hr ?_; (case hd => rfl); (case hg => rfl); (case hr => first | (go_simp; done) | (go_simp; rfl)); intro gb214 hg w13 hbox hb; have n0_ := Aside0.mk (below_step (by repeat (first | (with_reducible first | exact HB.out | apply below_alloc | apply pw_below_drewN | apply below_drew1) | exact HB.out)) hb); have n1_ := Aside0.mk (hbox); have n2_ := Aside0.mk ((by rw [hg]; exact (below_size (by repeat (first | (with_reducible first | exact HB.out | apply below_alloc | apply pw_below_drewN | apply below_drew1) | exact HB.out))) : w.heap.size ≤ gb214)); have n3_ := Aside0.mk ((by rw [hg]; exact (below_size (by repeat (first | (with_reducible first | exact HB.out | apply below_alloc | apply pw_below_drewN | apply below_drew1) | exact HB.out))) : w.heap.size ≤ gb214)); clear HB; have HB := n0_; have BK214 := n1_; have GW214 := n2_; have GE214 := n3_; clear n0_ n1_ n2_ n3_; clear hb hbox hg; have hcz14_0 : w13.cell? ⟨gb214, 0, none⟩ = some (.bool a0_0) := (blk_cell BK214.out 0).trans rfl; have hcz14_1 : w13.cell? ⟨gb214, 1, none⟩ = some (.bool a0_1) := (blk_cell BK214.out 1).trans rfl; have hcz14_2 : w13.cell? ⟨gb214, 2, none⟩ = some (.bool a0_2) := (blk_cell BK214.out 2).trans rfl; have hcz14_3 : w13.cell? ⟨gb214, 3, none⟩ = some (.bool true) := (blk_cell BK214.out 3).trans rfl; have hcz14_4 : w13.cell? ⟨gb214, 4, none⟩ = some (.bool false) := (blk_cell BK214.out 4).trans rfl; have hfz14_0 := blk_frozen BK214.out 0; have hfz14_1 := blk_frozen BK214.out 1; have hfz14_2 := blk_frozen BK214.out 2; have hfz14_3 := blk_frozen BK214.out 3; have hfz14_4 := blk_frozen BK214.out 4))
    go_ret
    exact ⟨by first | rfl | (simp [errW_none, errW_some] <;> rfl) | (simp [*, errW_none, errW_some] <;> rfl), by repeat (first | (with_reducible first | exact HB.out | apply below_alloc | apply pw_below_drewN | apply below_drew1 | refine below_set ?_ GE214.out) | exact HB.out)⟩
 ·replace c3 := Bool.eq_false_iff.mpr c3
  subst c3
  have H1 : (some (a1 == 0)) = some r := by rw [if_neg (show ¬ (false = true) by decide)] at H; exact H
  clear H
  have H := H1
  clear H1
  obtain rfl := Option.some.inj H
  go_enter Try.func43, Try.ntmps43
  go_wp2_with (first | ((with_reducible refine gate_dst (N := 2) rfl ?_); refine box_event ?hg (N := 2) ?hd (cs := #[.bool a0_0, .bool a0_1, .bool a0_2, .bool false, .bool a0_4]) (t := 57) ?hr ?_; (case hd => rfl); (case hg => rfl); (case hr => first | (go_simp; done) | (go_simp; rfl)); intro gb214 hg w15 hbox hb; have n0_ := Aside0.mk (below_step (by repeat (first | (with_reducible first | exact HB.out | apply below_alloc | apply pw_below_drewN | apply below_drew1) | exact HB.out)) hb); have n1_ := Aside0.mk (hbox); have n2_ := Aside0.mk ((by rw [hg]; exact (below_size (by repeat (first | (with_reducible first | exact HB.out | apply below_alloc | apply pw_below_drewN | apply below_drew1) | exact HB.out))) : w.heap.size ≤ gb214)); have n3_ := Aside0.mk ((by rw [hg]; exact (below_size (by repeat (first | (with_reducible first | exact HB.out | apply below_alloc | apply pw_below_drewN | apply below_drew1) | exact HB.out))) : w.heap.size ≤ gb214)); clear HB; have HB := n0_; have BK214 := n1_; have GW214 := n2_; have GE214 := n3_; clear n0_ n1_ n2_ n3_; clear hb hbox hg; have hcz16_0 : w15.cell? ⟨gb214, 0, none⟩ = some (.bool a0_0) := (blk_cell BK214.out 0).trans rfl; have hcz16_1 : w15.cell? ⟨gb214, 1, none⟩ = some (.bool a0_1) := (blk_cell BK214.out 1).trans rfl; have hcz16_2 : w15.cell? ⟨gb214, 2, none⟩ = some (.bool a0_2) := (blk_cell BK214.out 2).trans rfl; have hcz16_3 : w15.cell? ⟨gb214, 3, none⟩ = some (.bool false) := (blk_cell BK214.out 3).trans rfl; have hcz16_4 : w15.cell? ⟨gb214, 4, none⟩ = some (.bool a0_4) := (blk_cell BK214.out 4).trans rfl; have hfz16_0 := blk_frozen BK214.out 0; have hfz16_1 := blk_frozen BK214.out 1; have hfz16_2 := blk_frozen BK214.out 2; have hfz16_3 := blk_frozen BK214.out 3; have hfz16_4 := blk_frozen BK214.out 4))
  go_ret
  exact ⟨by first | rfl | (simp [errW_none, errW_some] <;> rfl) | (simp [*, errW_none, errW_some] <;> rfl), by repeat (first | (with_reducible first | exact HB.out | apply below_alloc | apply pw_below_drewN | apply below_drew1 | refine below_set ?_ GE214.out) | exact HB.out)⟩

/-! ### pleatref02_Encode: function 25 -/
mutual
def pleatref02_Encode.j0 : Nat → Bool → Int → Int → Int → Int → Int → Option (Int × Int)
 | 0, _, _, _, _, _, _ => none
 | k + 1, x14, x216000, x216001, x216002, x216003, x216004 => if x14 = true then (some (0, 10)) else ((pleatref02_Has.f k x216000).bind fun bt216 => ((pleatref02_register.f bt216.1 x216001).bind fun t222 => (if t222 = true then ((pleatref02_register.f bt216.2.1 x216002).bind fun t223 => (if t223 = true then ((pleatref02_register.f bt216.2.2.1 x216003).bind fun t224 => (if t224 = true then ((pleatref02_number.f bt216.1 bt216.2.1 bt216.2.2.1 bt216.2.2.2.1 bt216.2.2.2.2 x216004).bind fun t225 => (pleatref02_Encode.j1 k (!t225) x216000 x216001 x216002 x216003 x216004)) else (pleatref02_Encode.j1 k true x216000 x216001 x216002 x216003 x216004))) else (pleatref02_Encode.j1 k true x216000 x216001 x216002 x216003 x216004))) else (pleatref02_Encode.j1 k true x216000 x216001 x216002 x216003 x216004))))
def pleatref02_Encode.j1 : Nat → Bool → Int → Int → Int → Int → Int → Option (Int × Int)
 | 0, _, _, _, _, _, _ => none
 | k + 1, x46, x216000, x216001, x216002, x216003, x216004 => if x46 = true then (some (0, 11)) else (if x216004 < 0 then (some ((((((((((((((((((x216000) % 4294967296) * 16) % 4294967296) + ((x216001) % 4294967296)) % 4294967296) * 16) % 4294967296) + ((x216002) % 4294967296)) % 4294967296) * 16) % 4294967296) + ((x216003) % 4294967296)) % 4294967296) * 32768) % 4294967296) + ((wrap64 (x216004 + 32768)) % 4294967296)) % 4294967296, 0)) else (some ((((((((((((((((((x216000) % 4294967296) * 16) % 4294967296) + ((x216001) % 4294967296)) % 4294967296) * 16) % 4294967296) + ((x216002) % 4294967296)) % 4294967296) * 16) % 4294967296) + ((x216003) % 4294967296)) % 4294967296) * 32768) % 4294967296) + ((x216004) % 4294967296)) % 4294967296, 0)))
end
def pleatref02_Encode.f (k : Nat) (a0_0 : Int) (a0_1 : Int) (a0_2 : Int) (a0_3 : Int) (a0_4 : Int) : Option (Int × Int) := if a0_0 < 0 then (pleatref02_Encode.j0 k true a0_0 a0_1 a0_2 a0_3 a0_4) else (pleatref02_Encode.j0 k (decide (a0_0 > 21)) a0_0 a0_1 a0_2 a0_3 a0_4)
theorem pleatref02_Encode.mono_l : ∀ k, (∀ y0 y1 y2 y3 y4 y5, LeO (pleatref02_Encode.j0 k y0 y1 y2 y3 y4 y5) (pleatref02_Encode.j0 (k + 1) y0 y1 y2 y3 y4 y5)) ∧ (∀ y0 y1 y2 y3 y4 y5, LeO (pleatref02_Encode.j1 k y0 y1 y2 y3 y4 y5) (pleatref02_Encode.j1 (k + 1) y0 y1 y2 y3 y4 y5))
 | 0 => ⟨fun _ _ _ _ _ _ r h => by simp [pleatref02_Encode.j0] at h, fun _ _ _ _ _ _ r h => by simp [pleatref02_Encode.j1] at h⟩
 | k + 1 => by
  obtain ⟨ih0, ih1⟩ := pleatref02_Encode.mono_l k
  refine ⟨?_, ?_⟩
  ·intro y0 y1 y2 y3 y4 y5
   unfold pleatref02_Encode.j0
   repeat' first
   | (with_reducible exact ih0 _ _ _ _ _ _)
   | (with_reducible exact ih1 _ _ _ _ _ _)
   | (with_reducible exact pleatref02_Has.mono _ _)
   | (with_reducible exact LeO.refl _)
   | (with_reducible exact LeO.none _)
   | (with_reducible refine LeO.ite ?_ ?_)
   | (with_reducible refine LeO.bind ?_ (fun _ => ?_))
   | exact ih0 _ _ _ _ _ _
   | exact ih1 _ _ _ _ _ _
   | exact pleatref02_Has.mono _ _
   | exact LeO.none _
   | refine LeO.ite ?_ ?_
   | refine LeO.bind ?_ (fun _ => ?_)
  ·intro y0 y1 y2 y3 y4 y5
   unfold pleatref02_Encode.j1
   repeat' first
   | (with_reducible exact ih0 _ _ _ _ _ _)
   | (with_reducible exact ih1 _ _ _ _ _ _)
   | (with_reducible exact pleatref02_Has.mono _ _)
   | (with_reducible exact LeO.refl _)
   | (with_reducible exact LeO.none _)
   | (with_reducible refine LeO.ite ?_ ?_)
   | (with_reducible refine LeO.bind ?_ (fun _ => ?_))
   | exact ih0 _ _ _ _ _ _
   | exact ih1 _ _ _ _ _ _
   | exact pleatref02_Has.mono _ _
   | exact LeO.none _
   | refine LeO.ite ?_ ?_
   | refine LeO.bind ?_ (fun _ => ?_)
theorem pleatref02_Encode.mono : ∀ a0 a1 a2 a3 a4 k, LeO (pleatref02_Encode.f k a0 a1 a2 a3 a4) (pleatref02_Encode.f (k + 1) a0 a1 a2 a3 a4) := by
 intro a0 a1 a2 a3 a4 k
 obtain ⟨ih0, ih1⟩ := pleatref02_Encode.mono_l k
 unfold pleatref02_Encode.f
 repeat' first
   | (with_reducible exact ih0 _ _ _ _ _ _)
   | (with_reducible exact ih1 _ _ _ _ _ _)
   | (with_reducible exact pleatref02_Has.mono _ _)
   | (with_reducible exact LeO.refl _)
   | (with_reducible exact LeO.none _)
   | (with_reducible refine LeO.ite ?_ ?_)
   | (with_reducible refine LeO.bind ?_ (fun _ => ?_))
   | exact ih0 _ _ _ _ _ _
   | exact ih1 _ _ _ _ _ _
   | exact pleatref02_Has.mono _ _
   | exact LeO.none _
   | refine LeO.ite ?_ ?_
   | refine LeO.bind ?_ (fun _ => ?_)
set_option maxHeartbeats 8000000 in
set_option maxRecDepth 100000 in
theorem pleatref02_Encode.calls (k : Nat) (a0_0 : Int) (a0_1 : Int) (a0_2 : Int) (a0_3 : Int) (a0_4 : Int) (r1 : Int) (r2 : Int) (w : World) (h : pleatref02_Encode.f k a0_0 a0_1 a0_2 a0_3 a0_4 = some (r1, r2)) :
  Calls Try.prog 25 #[.agg #[.int .i8 a0_0, .int .i8 a0_1, .int .i8 a0_2, .int .i8 a0_3, .int .i64 a0_4]] w fun e w' => e = .returned (.tuple #[.int .u32 r1, .int .i64 r2]) ∧ Below w.heap.size w w' := by
 have hu40 := Try.underlying40
 have hu57 := Try.underlying57
 have HB := Aside0.mk (Below.refl w.heap.size w)
 have H : (if a0_0 < 0 then (pleatref02_Encode.j0 k true a0_0 a0_1 a0_2 a0_3 a0_4) else (pleatref02_Encode.j0 k (decide (a0_0 > 21)) a0_0 a0_1 a0_2 a0_3 a0_4)) = some (r1, r2) := h
 clear h
 have HC2 := Aside0.mk H
 clear H
 go_enter Try.func25, Try.ntmps25
 go_upto_region 1 with (first | ((with_reducible refine gate_dst (N := 1) rfl ?_); refine box_event ?hg (N := 1) ?hd (cs := #[.int .i8 a0_0, .int .i8 a0_1, .int .i8 a0_2, .int .i8 a0_3, .int .i64 a0_4]) (t := 40) ?hr ?_; (case hd => rfl); (case hg => rfl); (case hr => first | (go_simp; done) | (go_simp; rfl)); intro gb215 hg w3 hbox hb; have n0_ := Aside0.mk (below_step (by repeat (first | (with_reducible first | exact HB.out | apply below_alloc | apply pw_below_drewN | apply below_drew1) | exact HB.out)) hb); have n1_ := Aside0.mk (hbox); have n2_ := Aside0.mk ((by rw [hg]; exact (below_size (by repeat (first | (with_reducible first | exact HB.out | apply below_alloc | apply pw_below_drewN | apply below_drew1) | exact HB.out))) : w.heap.size ≤ gb215)); have n3_ := Aside0.mk ((by rw [hg]; exact (below_size (by repeat (first | (with_reducible first | exact HB.out | apply below_alloc | apply pw_below_drewN | apply below_drew1) | exact HB.out))) : w.heap.size ≤ gb215)); clear HB; have HB := n0_; have BK215 := n1_; have GW215 := n2_; have GE215 := n3_; clear n0_ n1_ n2_ n3_; clear hb hbox hg))
 (try simp only [Act.put, List.setIfInBounds_toArray, List.set_cons_zero, List.set_cons_succ])
 go_cut [14] (fun v14 wc => ∃ (kq : Nat) (x14_1 : Bool), v14 = .bool x14_1 ∧ Aside0 (pleatref02_Encode.j0 kq x14_1 a0_0 a0_1 a0_2 a0_3 a0_4 = some (r1, r2)) ∧ Aside0 (kq ≤ k) ∧ Aside0 (wc.heap[gb215]? = some (.cells #[.int .i8 a0_0, .int .i8 a0_1, .int .i8 a0_2, .int .i8 a0_3, .int .i64 a0_4] 40 (0, 0))) ∧ Aside0 (Below w.heap.size w wc))
 case first =>
  have H := HC2.out
  clear HC2
  by_cases c4 : a0_0 < 0
  ·rw [if_pos c4] at H
   have c4b0 : decide (a0_0 < 0) = true := decide_eq_true c4
   clear c4
   (first | rw [c4b0] | (simp only [i64_w, i32_w]; rw [c4b0]) | skip)
   have H' := Aside0.mk H
   clear H
   have hcz5_0 : w3.cell? ⟨gb215, 0, none⟩ = some (.int .i8 a0_0) := (blk_cell BK215.out 0).trans rfl
   have hcz5_1 : w3.cell? ⟨gb215, 1, none⟩ = some (.int .i8 a0_1) := (blk_cell BK215.out 1).trans rfl
   have hcz5_2 : w3.cell? ⟨gb215, 2, none⟩ = some (.int .i8 a0_2) := (blk_cell BK215.out 2).trans rfl
   have hcz5_3 : w3.cell? ⟨gb215, 3, none⟩ = some (.int .i8 a0_3) := (blk_cell BK215.out 3).trans rfl
   have hcz5_4 : w3.cell? ⟨gb215, 4, none⟩ = some (.int .i64 a0_4) := (blk_cell BK215.out 4).trans rfl
   have hfz5_0 := blk_frozen BK215.out 0
   have hfz5_1 := blk_frozen BK215.out 1
   have hfz5_2 := blk_frozen BK215.out 2
   have hfz5_3 := blk_frozen BK215.out 3
   have hfz5_4 := blk_frozen BK215.out 4
   go_wp2
   go_meet
   case rel => exact ⟨_, (true), (by first | rfl | (simp; done) | (simp [*]; done)), H', ⟨by first | omega | exact Nat.le_refl _⟩, ⟨by (with_reducible repeat (first | refine blk_drewN ?_ _ | refine blk_drew ?_ | refine blk_alloc ?_ _)); exact BK215.out⟩, ⟨by repeat (first | (with_reducible first | exact HB.out | apply below_alloc | apply pw_below_drewN | apply below_drew1 | refine below_set ?_ GE215.out) | exact HB.out)⟩⟩
  ·rw [if_neg c4] at H
   have c4b0 : decide (a0_0 < 0) = false := decide_eq_false c4
   clear c4
   (first | rw [c4b0] | (simp only [i64_w, i32_w]; rw [c4b0]) | skip)
   have H' := Aside0.mk H
   clear H
   have hcz6_0 : w3.cell? ⟨gb215, 0, none⟩ = some (.int .i8 a0_0) := (blk_cell BK215.out 0).trans rfl
   have hcz6_1 : w3.cell? ⟨gb215, 1, none⟩ = some (.int .i8 a0_1) := (blk_cell BK215.out 1).trans rfl
   have hcz6_2 : w3.cell? ⟨gb215, 2, none⟩ = some (.int .i8 a0_2) := (blk_cell BK215.out 2).trans rfl
   have hcz6_3 : w3.cell? ⟨gb215, 3, none⟩ = some (.int .i8 a0_3) := (blk_cell BK215.out 3).trans rfl
   have hcz6_4 : w3.cell? ⟨gb215, 4, none⟩ = some (.int .i64 a0_4) := (blk_cell BK215.out 4).trans rfl
   have hfz6_0 := blk_frozen BK215.out 0
   have hfz6_1 := blk_frozen BK215.out 1
   have hfz6_2 := blk_frozen BK215.out 2
   have hfz6_3 := blk_frozen BK215.out 3
   have hfz6_4 := blk_frozen BK215.out 4
   go_wp2
   go_meet
   case rel => exact ⟨_, (decide (a0_0 > 21)), (by first | rfl | (simp; done) | (simp [*]; done)), H', ⟨by first | omega | exact Nat.le_refl _⟩, ⟨by (with_reducible repeat (first | refine blk_drewN ?_ _ | refine blk_drew ?_ | refine blk_alloc ?_ _)); exact BK215.out⟩, ⟨by repeat (first | (with_reducible first | exact HB.out | apply below_alloc | apply pw_below_drewN | apply below_drew1 | refine below_set ?_ GE215.out) | exact HB.out)⟩⟩
 case rest =>
  clear HC2
  try clear c2
  try clear p2
  try clear c4
  try clear c4b0
  try clear hcz5_0
  try clear hcz5_1
  try clear hcz5_2
  try clear hcz5_3
  try clear hcz5_4
  try clear hcz6_0
  try clear hcz6_1
  try clear hcz6_2
  try clear hcz6_3
  try clear hcz6_4
  try clear hfz5_0
  try clear hfz5_1
  try clear hfz5_2
  try clear hfz5_3
  try clear hfz5_4
  try clear hfz6_0
  try clear hfz6_1
  try clear hfz6_2
  try clear hfz6_3
  try clear hfz6_4
  obtain ⟨kq, x14_1, rfl, HA, HJ1, BK215, HB⟩ := hcut
  cases kq with
  | zero => exact absurd HA.out (by simp [pleatref02_Encode.j0])
  | succ kj1 =>
   have H := HA.out
   clear HA
   simp only [pleatref02_Encode.j0] at H
   by_cases c7 : x14_1 = true
   ·subst c7
    have H1 : (some (0, 10)) = some (r1, r2) := by rw [if_pos rfl] at H; exact H
    clear H
    have H := H1
    clear H1
    simp only [Option.some.injEq, Prod.mk.injEq] at H
    obtain ⟨rfl, rfl⟩ := H
    go_wp2
    go_ret2
    exact ⟨by first | rfl | (simp [errW_none, errW_some] <;> rfl) | (simp [*, errW_none, errW_some] <;> rfl), by repeat (first | (with_reducible first | exact HB.out | apply below_alloc | apply pw_below_drewN | apply below_drew1 | refine below_set ?_ GE215.out) | exact HB.out)⟩
   ·replace c7 := Bool.eq_false_iff.mpr c7
    subst c7
    have H1 : ((pleatref02_Has.f kj1 a0_0).bind fun bt216 => ((pleatref02_register.f bt216.1 a0_1).bind fun t222 => (if t222 = true then ((pleatref02_register.f bt216.2.1 a0_2).bind fun t223 => (if t223 = true then ((pleatref02_register.f bt216.2.2.1 a0_3).bind fun t224 => (if t224 = true then ((pleatref02_number.f bt216.1 bt216.2.1 bt216.2.2.1 bt216.2.2.2.1 bt216.2.2.2.2 a0_4).bind fun t225 => (pleatref02_Encode.j1 kj1 (!t225) a0_0 a0_1 a0_2 a0_3 a0_4)) else (pleatref02_Encode.j1 kj1 true a0_0 a0_1 a0_2 a0_3 a0_4))) else (pleatref02_Encode.j1 kj1 true a0_0 a0_1 a0_2 a0_3 a0_4))) else (pleatref02_Encode.j1 kj1 true a0_0 a0_1 a0_2 a0_3 a0_4)))) = some (r1, r2) := by rw [if_neg (show ¬ (false = true) by decide)] at H; exact H
    clear H
    have H := H1
    clear H1
    replace H := Option.bind_eq_some_iff.mp H
    obtain ⟨⟨t216, t217, t218, t219, t220⟩, A80, H⟩ := H
    replace H : ((pleatref02_register.f t216 a0_1).bind fun t222 => (if t222 = true then ((pleatref02_register.f t217 a0_2).bind fun t223 => (if t223 = true then ((pleatref02_register.f t218 a0_3).bind fun t224 => (if t224 = true then ((pleatref02_number.f t216 t217 t218 t219 t220 a0_4).bind fun t225 => (pleatref02_Encode.j1 kj1 (!t225) a0_0 a0_1 a0_2 a0_3 a0_4)) else (pleatref02_Encode.j1 kj1 true a0_0 a0_1 a0_2 a0_3 a0_4))) else (pleatref02_Encode.j1 kj1 true a0_0 a0_1 a0_2 a0_3 a0_4))) else (pleatref02_Encode.j1 kj1 true a0_0 a0_1 a0_2 a0_3 a0_4))) = some (r1, r2) := H
    have A8 := Aside0.mk A80
    clear A80
    have HC9 := Aside0.mk H
    clear H
    have hcz10_0 : wc.cell? ⟨gb215, 0, none⟩ = some (.int .i8 a0_0) := (blk_cell BK215.out 0).trans rfl
    have hcz10_1 : wc.cell? ⟨gb215, 1, none⟩ = some (.int .i8 a0_1) := (blk_cell BK215.out 1).trans rfl
    have hcz10_2 : wc.cell? ⟨gb215, 2, none⟩ = some (.int .i8 a0_2) := (blk_cell BK215.out 2).trans rfl
    have hcz10_3 : wc.cell? ⟨gb215, 3, none⟩ = some (.int .i8 a0_3) := (blk_cell BK215.out 3).trans rfl
    have hcz10_4 : wc.cell? ⟨gb215, 4, none⟩ = some (.int .i64 a0_4) := (blk_cell BK215.out 4).trans rfl
    have hfz10_0 := blk_frozen BK215.out 0
    have hfz10_1 := blk_frozen BK215.out 1
    have hfz10_2 := blk_frozen BK215.out 2
    have hfz10_3 := blk_frozen BK215.out 3
    have hfz10_4 := blk_frozen BK215.out 4
    go_upto_region 4 with (first | ((with_reducible refine gate_callee (f := 24) rfl ?_); refine goesL_ (some 17) rfl rfl Try.func24 (by kernel_rfl) rfl #[.int .i8 a0_0] rfl (by (try simp only [List.map_toArray, List.map_cons, List.map_nil]); first | done | rfl | (simp only [List.length_drop, List.length_take]; rfl)) ?_; (with_reducible refine (pleatref02_Has.calls kj1 a0_0 t216 t217 t218 t219 t220 _ A8.out).mono ?_); rintro e w11 ⟨rfl, hb⟩; refine ⟨_, rfl, ?_⟩; have n0_ := Aside0.mk (blk_below (g := gb215) (o := .cells #[.int .i8 a0_0, .int .i8 a0_1, .int .i8 a0_2, .int .i8 a0_3, .int .i64 a0_4] 40 (0, 0)) (by (with_reducible repeat (first | refine blk_drewN ?_ _ | refine blk_drew ?_ | refine blk_alloc ?_ _)); exact BK215.out) hb); have n1_ := Aside0.mk (below_step (by repeat (first | (with_reducible first | exact HB.out | apply below_alloc | apply pw_below_drewN | apply below_drew1 | refine below_set ?_ GE215.out) | exact HB.out)) hb); clear BK215; clear HB; have BK215 := n0_; have HB := n1_; clear n0_ n1_; (try clear hb); (try clear hb2); (try clear hk); (try clear hi)) | ((with_reducible refine gate_dst (N := 4) rfl ?_); refine box_event ?hg (N := 4) ?hd (cs := #[.bool false, .bool false, .bool false, .bool false, .bool false]) (t := 57) ?hr ?_; (case hd => rfl); (case hg => rfl); (case hr => first | (go_simp; done) | (go_simp; rfl)); intro gb221 hg w12 hbox hb; have n0_ := Aside0.mk (blk_below (g := gb215) (o := .cells #[.int .i8 a0_0, .int .i8 a0_1, .int .i8 a0_2, .int .i8 a0_3, .int .i64 a0_4] 40 (0, 0)) (by (with_reducible repeat (first | refine blk_drewN ?_ _ | refine blk_drew ?_ | refine blk_alloc ?_ _)); exact BK215.out) hb); have n1_ := Aside0.mk (below_step (by repeat (first | (with_reducible first | exact HB.out | apply below_alloc | apply pw_below_drewN | apply below_drew1 | refine below_set ?_ GE215.out) | exact HB.out)) hb); have n2_ := Aside0.mk (hbox); have n3_ := Aside0.mk ((by rw [hg]; exact (below_size (by repeat (first | (with_reducible first | exact HB.out | apply below_alloc | apply pw_below_drewN | apply below_drew1 | refine below_set ?_ GE215.out) | exact HB.out))) : w.heap.size ≤ gb221)); have n4_ := Aside0.mk ((by rw [hg]; exact (below_size (by repeat (first | (with_reducible first | exact HB.out | apply below_alloc | apply pw_below_drewN | apply below_drew1 | refine below_set ?_ GE215.out) | exact HB.out))) : w.heap.size ≤ gb221)); have n5_ := Aside0.mk ((by rw [hg]; exact Nat.ne_of_lt (blk_lt (g := gb215) (o := .cells #[.int .i8 a0_0, .int .i8 a0_1, .int .i8 a0_2, .int .i8 a0_3, .int .i64 a0_4] 40 (0, 0)) (by (with_reducible repeat (first | refine blk_drewN ?_ _ | refine blk_drew ?_ | refine blk_alloc ?_ _)); exact BK215.out)) : gb215 ≠ gb221)); have n6_ := Aside0.mk ((by rw [hg]; exact Nat.ne_of_gt (blk_lt (g := gb215) (o := .cells #[.int .i8 a0_0, .int .i8 a0_1, .int .i8 a0_2, .int .i8 a0_3, .int .i64 a0_4] 40 (0, 0)) (by (with_reducible repeat (first | refine blk_drewN ?_ _ | refine blk_drew ?_ | refine blk_alloc ?_ _)); exact BK215.out)) : gb221 ≠ gb215)); clear BK215; clear HB; have BK215 := n0_; have HB := n1_; have BK221 := n2_; have GW221 := n3_; have GE221 := n4_; have NB215_221 := n5_; have NB221_215 := n6_; clear n0_ n1_ n2_ n3_ n4_ n5_ n6_; clear hb hbox hg; have hnb13 := NB221_215.out; have hnc13 := NB215_221.out; have hcz14_0 : w12.cell? ⟨gb221, 0, none⟩ = some (.bool false) := (blk_cell BK221.out 0).trans rfl; have hcz14_1 : w12.cell? ⟨gb221, 1, none⟩ = some (.bool false) := (blk_cell BK221.out 1).trans rfl; have hcz14_2 : w12.cell? ⟨gb221, 2, none⟩ = some (.bool false) := (blk_cell BK221.out 2).trans rfl; have hcz14_3 : w12.cell? ⟨gb221, 3, none⟩ = some (.bool false) := (blk_cell BK221.out 3).trans rfl; have hcz14_4 : w12.cell? ⟨gb221, 4, none⟩ = some (.bool false) := (blk_cell BK221.out 4).trans rfl; have hfz14_0 := blk_frozen BK221.out 0; have hfz14_1 := blk_frozen BK221.out 1; have hfz14_2 := blk_frozen BK221.out 2; have hfz14_3 := blk_frozen BK221.out 3; have hfz14_4 := blk_frozen BK221.out 4))
    (try simp only [Act.put, List.setIfInBounds_toArray, List.set_cons_zero, List.set_cons_succ])
    go_cut [46] (fun v46 wc => ∃ (kq : Nat) (x46_8 : Bool), v46 = .bool x46_8 ∧ Aside0 (pleatref02_Encode.j1 kq x46_8 a0_0 a0_1 a0_2 a0_3 a0_4 = some (r1, r2)) ∧ Aside0 (kq ≤ kj1) ∧ Aside0 (wc.heap[gb215]? = some (.cells #[.int .i8 a0_0, .int .i8 a0_1, .int .i8 a0_2, .int .i8 a0_3, .int .i64 a0_4] 40 (0, 0))) ∧ Aside0 (wc.heap[gb221]? = some (.cells #[.bool t216, .bool t217, .bool t218, .bool t219, .bool t220] 57 (0, 0))) ∧ Aside0 (Below w.heap.size w wc))
    case first =>
     have H := HC9.out
     clear HC9
     replace H := Option.bind_eq_some_iff.mp H
     obtain ⟨t222, A150, H⟩ := H
     replace H : (if t222 = true then ((pleatref02_register.f t217 a0_2).bind fun t223 => (if t223 = true then ((pleatref02_register.f t218 a0_3).bind fun t224 => (if t224 = true then ((pleatref02_number.f t216 t217 t218 t219 t220 a0_4).bind fun t225 => (pleatref02_Encode.j1 kj1 (!t225) a0_0 a0_1 a0_2 a0_3 a0_4)) else (pleatref02_Encode.j1 kj1 true a0_0 a0_1 a0_2 a0_3 a0_4))) else (pleatref02_Encode.j1 kj1 true a0_0 a0_1 a0_2 a0_3 a0_4))) else (pleatref02_Encode.j1 kj1 true a0_0 a0_1 a0_2 a0_3 a0_4)) = some (r1, r2) := H
     have A15 := Aside0.mk A150
     clear A150
     by_cases c16 : t222 = true
     ·subst c16
      have H1 : ((pleatref02_register.f t217 a0_2).bind fun t223 => (if t223 = true then ((pleatref02_register.f t218 a0_3).bind fun t224 => (if t224 = true then ((pleatref02_number.f t216 t217 t218 t219 t220 a0_4).bind fun t225 => (pleatref02_Encode.j1 kj1 (!t225) a0_0 a0_1 a0_2 a0_3 a0_4)) else (pleatref02_Encode.j1 kj1 true a0_0 a0_1 a0_2 a0_3 a0_4))) else (pleatref02_Encode.j1 kj1 true a0_0 a0_1 a0_2 a0_3 a0_4))) = some (r1, r2) := by rw [if_pos rfl] at H; exact H
      clear H
      have H := H1
      clear H1
      replace H := Option.bind_eq_some_iff.mp H
      obtain ⟨t223, A170, H⟩ := H
      replace H : (if t223 = true then ((pleatref02_register.f t218 a0_3).bind fun t224 => (if t224 = true then ((pleatref02_number.f t216 t217 t218 t219 t220 a0_4).bind fun t225 => (pleatref02_Encode.j1 kj1 (!t225) a0_0 a0_1 a0_2 a0_3 a0_4)) else (pleatref02_Encode.j1 kj1 true a0_0 a0_1 a0_2 a0_3 a0_4))) else (pleatref02_Encode.j1 kj1 true a0_0 a0_1 a0_2 a0_3 a0_4)) = some (r1, r2) := H
      have A17 := Aside0.mk A170
      clear A170
      by_cases c18 : t223 = true
      ·subst c18
       have H1 : ((pleatref02_register.f t218 a0_3).bind fun t224 => (if t224 = true then ((pleatref02_number.f t216 t217 t218 t219 t220 a0_4).bind fun t225 => (pleatref02_Encode.j1 kj1 (!t225) a0_0 a0_1 a0_2 a0_3 a0_4)) else (pleatref02_Encode.j1 kj1 true a0_0 a0_1 a0_2 a0_3 a0_4))) = some (r1, r2) := by rw [if_pos rfl] at H; exact H
       clear H
       have H := H1
       clear H1
       replace H := Option.bind_eq_some_iff.mp H
       obtain ⟨t224, A190, H⟩ := H
       replace H : (if t224 = true then ((pleatref02_number.f t216 t217 t218 t219 t220 a0_4).bind fun t225 => (pleatref02_Encode.j1 kj1 (!t225) a0_0 a0_1 a0_2 a0_3 a0_4)) else (pleatref02_Encode.j1 kj1 true a0_0 a0_1 a0_2 a0_3 a0_4)) = some (r1, r2) := H
       have A19 := Aside0.mk A190
       clear A190
       by_cases c20 : t224 = true
       ·subst c20
        have H1 : ((pleatref02_number.f t216 t217 t218 t219 t220 a0_4).bind fun t225 => (pleatref02_Encode.j1 kj1 (!t225) a0_0 a0_1 a0_2 a0_3 a0_4)) = some (r1, r2) := by rw [if_pos rfl] at H; exact H
        clear H
        have H := H1
        clear H1
        replace H := Option.bind_eq_some_iff.mp H
        obtain ⟨t225, A210, H⟩ := H
        replace H : (pleatref02_Encode.j1 kj1 (!t225) a0_0 a0_1 a0_2 a0_3 a0_4) = some (r1, r2) := H
        have A21 := Aside0.mk A210
        clear A210
        have H' := Aside0.mk H
        clear H
        have hnb22 := NB221_215.out
        have hnc22 := NB215_221.out
        have hcz23_0 : w12.cell? ⟨gb221, 0, none⟩ = some (.bool false) := (blk_cell BK221.out 0).trans rfl
        have hcz23_1 : w12.cell? ⟨gb221, 1, none⟩ = some (.bool false) := (blk_cell BK221.out 1).trans rfl
        have hcz23_2 : w12.cell? ⟨gb221, 2, none⟩ = some (.bool false) := (blk_cell BK221.out 2).trans rfl
        have hcz23_3 : w12.cell? ⟨gb221, 3, none⟩ = some (.bool false) := (blk_cell BK221.out 3).trans rfl
        have hcz23_4 : w12.cell? ⟨gb221, 4, none⟩ = some (.bool false) := (blk_cell BK221.out 4).trans rfl
        have hfz23_0 := blk_frozen BK221.out 0
        have hfz23_1 := blk_frozen BK221.out 1
        have hfz23_2 := blk_frozen BK221.out 2
        have hfz23_3 := blk_frozen BK221.out 3
        have hfz23_4 := blk_frozen BK221.out 4
        have hcz24_0 : w12.cell? ⟨gb215, 0, none⟩ = some (.int .i8 a0_0) := (blk_cell BK215.out 0).trans rfl
        have hcz24_1 : w12.cell? ⟨gb215, 1, none⟩ = some (.int .i8 a0_1) := (blk_cell BK215.out 1).trans rfl
        have hcz24_2 : w12.cell? ⟨gb215, 2, none⟩ = some (.int .i8 a0_2) := (blk_cell BK215.out 2).trans rfl
        have hcz24_3 : w12.cell? ⟨gb215, 3, none⟩ = some (.int .i8 a0_3) := (blk_cell BK215.out 3).trans rfl
        have hcz24_4 : w12.cell? ⟨gb215, 4, none⟩ = some (.int .i64 a0_4) := (blk_cell BK215.out 4).trans rfl
        have hfz24_0 := blk_frozen BK215.out 0
        have hfz24_1 := blk_frozen BK215.out 1
        have hfz24_2 := blk_frozen BK215.out 2
        have hfz24_3 := blk_frozen BK215.out 3
        have hfz24_4 := blk_frozen BK215.out 4
        go_wp2_with (first | ((with_reducible refine gate_callee (f := 42) rfl ?_); refine goesL_ (some 22) rfl rfl Try.func42 (by kernel_rfl) rfl #[.bool t216, .int .i8 a0_1] rfl (by (try simp only [List.map_toArray, List.map_cons, List.map_nil]); first | done | rfl | (simp only [List.length_drop, List.length_take]; rfl)) ?_; (with_reducible refine (pleatref02_register.calls t216 a0_1 true _ A15.out).mono ?_); rintro e w' ⟨rfl, ⟨nd, rfl⟩⟩; refine ⟨_, rfl, ?_⟩) | (go_at_call 42; (with_reducible refine (pleatref02_register.calls t217 a0_2 true _ A17.out).mono ?_); rintro e w' ⟨rfl, ⟨nd, rfl⟩⟩) | (go_at_call 42; (with_reducible refine (pleatref02_register.calls t218 a0_3 true _ A19.out).mono ?_); rintro e w' ⟨rfl, ⟨nd, rfl⟩⟩) | (go_at_call 43; (with_reducible refine (pleatref02_number.calls t216 t217 t218 t219 t220 a0_4 t225 _ A21.out).mono ?_); rintro e w25 ⟨rfl, hb⟩; have n0_ := Aside0.mk (blk_below (g := gb215) (o := .cells #[.int .i8 a0_0, .int .i8 a0_1, .int .i8 a0_2, .int .i8 a0_3, .int .i64 a0_4] 40 (0, 0)) (by (with_reducible repeat (first | refine blk_drewN ?_ _ | refine blk_drew ?_ | refine blk_alloc ?_ _)); refine blk_far ?_ NB215_221.out _; (with_reducible repeat (first | refine blk_drewN ?_ _ | refine blk_drew ?_ | refine blk_alloc ?_ _)); refine blk_far ?_ NB215_221.out _; (with_reducible repeat (first | refine blk_drewN ?_ _ | refine blk_drew ?_ | refine blk_alloc ?_ _)); refine blk_far ?_ NB215_221.out _; (with_reducible repeat (first | refine blk_drewN ?_ _ | refine blk_drew ?_ | refine blk_alloc ?_ _)); refine blk_far ?_ NB215_221.out _; (with_reducible repeat (first | refine blk_drewN ?_ _ | refine blk_drew ?_ | refine blk_alloc ?_ _)); refine blk_far ?_ NB215_221.out _; (with_reducible repeat (first | refine blk_drewN ?_ _ | refine blk_drew ?_ | refine blk_alloc ?_ _)); exact BK215.out) hb); have n1_ := Aside0.mk (blk_below (g := gb221) (o := .cells #[.bool t216, .bool t217, .bool t218, .bool t219, .bool t220] 57 (0, 0)) (by (with_reducible repeat (first | refine blk_drewN ?_ _ | refine blk_drew ?_ | refine blk_alloc ?_ _)); refine blk_put (cs := #[.bool t216, .bool t217, .bool t218, .bool t219, .bool false]) ?_ 4 _ rfl; (with_reducible repeat (first | refine blk_drewN ?_ _ | refine blk_drew ?_ | refine blk_alloc ?_ _)); refine blk_put (cs := #[.bool t216, .bool t217, .bool t218, .bool false, .bool false]) ?_ 3 _ rfl; (with_reducible repeat (first | refine blk_drewN ?_ _ | refine blk_drew ?_ | refine blk_alloc ?_ _)); refine blk_put (cs := #[.bool t216, .bool t217, .bool false, .bool false, .bool false]) ?_ 2 _ rfl; (with_reducible repeat (first | refine blk_drewN ?_ _ | refine blk_drew ?_ | refine blk_alloc ?_ _)); refine blk_put (cs := #[.bool t216, .bool false, .bool false, .bool false, .bool false]) ?_ 1 _ rfl; (with_reducible repeat (first | refine blk_drewN ?_ _ | refine blk_drew ?_ | refine blk_alloc ?_ _)); refine blk_put (cs := #[.bool false, .bool false, .bool false, .bool false, .bool false]) ?_ 0 _ rfl; (with_reducible repeat (first | refine blk_drewN ?_ _ | refine blk_drew ?_ | refine blk_alloc ?_ _)); exact BK221.out) hb); have n2_ := Aside0.mk (below_step (by repeat (first | (with_reducible first | exact HB.out | apply below_alloc | apply pw_below_drewN | apply below_drew1 | refine below_set ?_ GE215.out | refine below_set ?_ GE221.out) | exact HB.out)) hb); clear BK215; clear BK221; clear HB; have BK215 := n0_; have BK221 := n1_; have HB := n2_; clear n0_ n1_ n2_; (try clear hb); (try clear hb2); (try clear hk); (try clear hi)))
        go_meet
        case rel => exact ⟨_, (!t225), (by first | rfl | (simp; done) | (simp [*]; done)), H', ⟨by have := HJ1.out; first | omega | exact Nat.le_refl _⟩, ⟨by (with_reducible repeat (first | refine blk_drewN ?_ _ | refine blk_drew ?_ | refine blk_alloc ?_ _)); exact BK215.out⟩, ⟨by (with_reducible repeat (first | refine blk_drewN ?_ _ | refine blk_drew ?_ | refine blk_alloc ?_ _)); exact BK221.out⟩, ⟨by repeat (first | (with_reducible first | exact HB.out | apply below_alloc | apply pw_below_drewN | apply below_drew1 | refine below_set ?_ GE215.out | refine below_set ?_ GE221.out) | exact HB.out)⟩⟩
       ·replace c20 := Bool.eq_false_iff.mpr c20
        subst c20
        have H1 : (pleatref02_Encode.j1 kj1 true a0_0 a0_1 a0_2 a0_3 a0_4) = some (r1, r2) := by rw [if_neg (show ¬ (false = true) by decide)] at H; exact H
        clear H
        have H := H1
        clear H1
        have H' := Aside0.mk H
        clear H
        have hnb26 := NB221_215.out
        have hnc26 := NB215_221.out
        have hcz27_0 : w12.cell? ⟨gb221, 0, none⟩ = some (.bool false) := (blk_cell BK221.out 0).trans rfl
        have hcz27_1 : w12.cell? ⟨gb221, 1, none⟩ = some (.bool false) := (blk_cell BK221.out 1).trans rfl
        have hcz27_2 : w12.cell? ⟨gb221, 2, none⟩ = some (.bool false) := (blk_cell BK221.out 2).trans rfl
        have hcz27_3 : w12.cell? ⟨gb221, 3, none⟩ = some (.bool false) := (blk_cell BK221.out 3).trans rfl
        have hcz27_4 : w12.cell? ⟨gb221, 4, none⟩ = some (.bool false) := (blk_cell BK221.out 4).trans rfl
        have hfz27_0 := blk_frozen BK221.out 0
        have hfz27_1 := blk_frozen BK221.out 1
        have hfz27_2 := blk_frozen BK221.out 2
        have hfz27_3 := blk_frozen BK221.out 3
        have hfz27_4 := blk_frozen BK221.out 4
        have hcz28_0 : w12.cell? ⟨gb215, 0, none⟩ = some (.int .i8 a0_0) := (blk_cell BK215.out 0).trans rfl
        have hcz28_1 : w12.cell? ⟨gb215, 1, none⟩ = some (.int .i8 a0_1) := (blk_cell BK215.out 1).trans rfl
        have hcz28_2 : w12.cell? ⟨gb215, 2, none⟩ = some (.int .i8 a0_2) := (blk_cell BK215.out 2).trans rfl
        have hcz28_3 : w12.cell? ⟨gb215, 3, none⟩ = some (.int .i8 a0_3) := (blk_cell BK215.out 3).trans rfl
        have hcz28_4 : w12.cell? ⟨gb215, 4, none⟩ = some (.int .i64 a0_4) := (blk_cell BK215.out 4).trans rfl
        have hfz28_0 := blk_frozen BK215.out 0
        have hfz28_1 := blk_frozen BK215.out 1
        have hfz28_2 := blk_frozen BK215.out 2
        have hfz28_3 := blk_frozen BK215.out 3
        have hfz28_4 := blk_frozen BK215.out 4
        go_wp2_with (first | ((with_reducible refine gate_callee (f := 42) rfl ?_); refine goesL_ (some 22) rfl rfl Try.func42 (by kernel_rfl) rfl #[.bool t216, .int .i8 a0_1] rfl (by (try simp only [List.map_toArray, List.map_cons, List.map_nil]); first | done | rfl | (simp only [List.length_drop, List.length_take]; rfl)) ?_; (with_reducible refine (pleatref02_register.calls t216 a0_1 true _ A15.out).mono ?_); rintro e w' ⟨rfl, ⟨nd, rfl⟩⟩; refine ⟨_, rfl, ?_⟩) | (go_at_call 42; (with_reducible refine (pleatref02_register.calls t217 a0_2 true _ A17.out).mono ?_); rintro e w' ⟨rfl, ⟨nd, rfl⟩⟩) | (go_at_call 42; (with_reducible refine (pleatref02_register.calls t218 a0_3 false _ A19.out).mono ?_); rintro e w' ⟨rfl, ⟨nd, rfl⟩⟩))
        go_meet
        case rel => exact ⟨_, (true), (by first | rfl | (simp; done) | (simp [*]; done)), H', ⟨by have := HJ1.out; first | omega | exact Nat.le_refl _⟩, ⟨by (with_reducible repeat (first | refine blk_drewN ?_ _ | refine blk_drew ?_ | refine blk_alloc ?_ _)); refine blk_far ?_ NB215_221.out _; (with_reducible repeat (first | refine blk_drewN ?_ _ | refine blk_drew ?_ | refine blk_alloc ?_ _)); refine blk_far ?_ NB215_221.out _; (with_reducible repeat (first | refine blk_drewN ?_ _ | refine blk_drew ?_ | refine blk_alloc ?_ _)); refine blk_far ?_ NB215_221.out _; (with_reducible repeat (first | refine blk_drewN ?_ _ | refine blk_drew ?_ | refine blk_alloc ?_ _)); refine blk_far ?_ NB215_221.out _; (with_reducible repeat (first | refine blk_drewN ?_ _ | refine blk_drew ?_ | refine blk_alloc ?_ _)); refine blk_far ?_ NB215_221.out _; (with_reducible repeat (first | refine blk_drewN ?_ _ | refine blk_drew ?_ | refine blk_alloc ?_ _)); exact BK215.out⟩, ⟨by (with_reducible repeat (first | refine blk_drewN ?_ _ | refine blk_drew ?_ | refine blk_alloc ?_ _)); refine blk_put (cs := #[.bool t216, .bool t217, .bool t218, .bool t219, .bool false]) ?_ 4 _ rfl; (with_reducible repeat (first | refine blk_drewN ?_ _ | refine blk_drew ?_ | refine blk_alloc ?_ _)); refine blk_put (cs := #[.bool t216, .bool t217, .bool t218, .bool false, .bool false]) ?_ 3 _ rfl; (with_reducible repeat (first | refine blk_drewN ?_ _ | refine blk_drew ?_ | refine blk_alloc ?_ _)); refine blk_put (cs := #[.bool t216, .bool t217, .bool false, .bool false, .bool false]) ?_ 2 _ rfl; (with_reducible repeat (first | refine blk_drewN ?_ _ | refine blk_drew ?_ | refine blk_alloc ?_ _)); refine blk_put (cs := #[.bool t216, .bool false, .bool false, .bool false, .bool false]) ?_ 1 _ rfl; (with_reducible repeat (first | refine blk_drewN ?_ _ | refine blk_drew ?_ | refine blk_alloc ?_ _)); refine blk_put (cs := #[.bool false, .bool false, .bool false, .bool false, .bool false]) ?_ 0 _ rfl; (with_reducible repeat (first | refine blk_drewN ?_ _ | refine blk_drew ?_ | refine blk_alloc ?_ _)); exact BK221.out⟩, ⟨by repeat (first | (with_reducible first | exact HB.out | apply below_alloc | apply pw_below_drewN | apply below_drew1 | refine below_set ?_ GE215.out | refine below_set ?_ GE221.out) | exact HB.out)⟩⟩
      ·replace c18 := Bool.eq_false_iff.mpr c18
       subst c18
       have H1 : (pleatref02_Encode.j1 kj1 true a0_0 a0_1 a0_2 a0_3 a0_4) = some (r1, r2) := by rw [if_neg (show ¬ (false = true) by decide)] at H; exact H
       clear H
       have H := H1
       clear H1
       have H' := Aside0.mk H
       clear H
       have hnb29 := NB221_215.out
       have hnc29 := NB215_221.out
       have hcz30_0 : w12.cell? ⟨gb221, 0, none⟩ = some (.bool false) := (blk_cell BK221.out 0).trans rfl
       have hcz30_1 : w12.cell? ⟨gb221, 1, none⟩ = some (.bool false) := (blk_cell BK221.out 1).trans rfl
       have hcz30_2 : w12.cell? ⟨gb221, 2, none⟩ = some (.bool false) := (blk_cell BK221.out 2).trans rfl
       have hcz30_3 : w12.cell? ⟨gb221, 3, none⟩ = some (.bool false) := (blk_cell BK221.out 3).trans rfl
       have hcz30_4 : w12.cell? ⟨gb221, 4, none⟩ = some (.bool false) := (blk_cell BK221.out 4).trans rfl
       have hfz30_0 := blk_frozen BK221.out 0
       have hfz30_1 := blk_frozen BK221.out 1
       have hfz30_2 := blk_frozen BK221.out 2
       have hfz30_3 := blk_frozen BK221.out 3
       have hfz30_4 := blk_frozen BK221.out 4
       have hcz31_0 : w12.cell? ⟨gb215, 0, none⟩ = some (.int .i8 a0_0) := (blk_cell BK215.out 0).trans rfl
       have hcz31_1 : w12.cell? ⟨gb215, 1, none⟩ = some (.int .i8 a0_1) := (blk_cell BK215.out 1).trans rfl
       have hcz31_2 : w12.cell? ⟨gb215, 2, none⟩ = some (.int .i8 a0_2) := (blk_cell BK215.out 2).trans rfl
       have hcz31_3 : w12.cell? ⟨gb215, 3, none⟩ = some (.int .i8 a0_3) := (blk_cell BK215.out 3).trans rfl
       have hcz31_4 : w12.cell? ⟨gb215, 4, none⟩ = some (.int .i64 a0_4) := (blk_cell BK215.out 4).trans rfl
       have hfz31_0 := blk_frozen BK215.out 0
       have hfz31_1 := blk_frozen BK215.out 1
       have hfz31_2 := blk_frozen BK215.out 2
       have hfz31_3 := blk_frozen BK215.out 3
       have hfz31_4 := blk_frozen BK215.out 4
       go_wp2_with (first | ((with_reducible refine gate_callee (f := 42) rfl ?_); refine goesL_ (some 22) rfl rfl Try.func42 (by kernel_rfl) rfl #[.bool t216, .int .i8 a0_1] rfl (by (try simp only [List.map_toArray, List.map_cons, List.map_nil]); first | done | rfl | (simp only [List.length_drop, List.length_take]; rfl)) ?_; (with_reducible refine (pleatref02_register.calls t216 a0_1 true _ A15.out).mono ?_); rintro e w' ⟨rfl, ⟨nd, rfl⟩⟩; refine ⟨_, rfl, ?_⟩) | (go_at_call 42; (with_reducible refine (pleatref02_register.calls t217 a0_2 false _ A17.out).mono ?_); rintro e w' ⟨rfl, ⟨nd, rfl⟩⟩))
       go_meet
       case rel => exact ⟨_, (true), (by first | rfl | (simp; done) | (simp [*]; done)), H', ⟨by have := HJ1.out; first | omega | exact Nat.le_refl _⟩, ⟨by (with_reducible repeat (first | refine blk_drewN ?_ _ | refine blk_drew ?_ | refine blk_alloc ?_ _)); refine blk_far ?_ NB215_221.out _; (with_reducible repeat (first | refine blk_drewN ?_ _ | refine blk_drew ?_ | refine blk_alloc ?_ _)); refine blk_far ?_ NB215_221.out _; (with_reducible repeat (first | refine blk_drewN ?_ _ | refine blk_drew ?_ | refine blk_alloc ?_ _)); refine blk_far ?_ NB215_221.out _; (with_reducible repeat (first | refine blk_drewN ?_ _ | refine blk_drew ?_ | refine blk_alloc ?_ _)); refine blk_far ?_ NB215_221.out _; (with_reducible repeat (first | refine blk_drewN ?_ _ | refine blk_drew ?_ | refine blk_alloc ?_ _)); refine blk_far ?_ NB215_221.out _; (with_reducible repeat (first | refine blk_drewN ?_ _ | refine blk_drew ?_ | refine blk_alloc ?_ _)); exact BK215.out⟩, ⟨by (with_reducible repeat (first | refine blk_drewN ?_ _ | refine blk_drew ?_ | refine blk_alloc ?_ _)); refine blk_put (cs := #[.bool t216, .bool t217, .bool t218, .bool t219, .bool false]) ?_ 4 _ rfl; (with_reducible repeat (first | refine blk_drewN ?_ _ | refine blk_drew ?_ | refine blk_alloc ?_ _)); refine blk_put (cs := #[.bool t216, .bool t217, .bool t218, .bool false, .bool false]) ?_ 3 _ rfl; (with_reducible repeat (first | refine blk_drewN ?_ _ | refine blk_drew ?_ | refine blk_alloc ?_ _)); refine blk_put (cs := #[.bool t216, .bool t217, .bool false, .bool false, .bool false]) ?_ 2 _ rfl; (with_reducible repeat (first | refine blk_drewN ?_ _ | refine blk_drew ?_ | refine blk_alloc ?_ _)); refine blk_put (cs := #[.bool t216, .bool false, .bool false, .bool false, .bool false]) ?_ 1 _ rfl; (with_reducible repeat (first | refine blk_drewN ?_ _ | refine blk_drew ?_ | refine blk_alloc ?_ _)); refine blk_put (cs := #[.bool false, .bool false, .bool false, .bool false, .bool false]) ?_ 0 _ rfl; (with_reducible repeat (first | refine blk_drewN ?_ _ | refine blk_drew ?_ | refine blk_alloc ?_ _)); exact BK221.out⟩, ⟨by repeat (first | (with_reducible first | exact HB.out | apply below_alloc | apply pw_below_drewN | apply below_drew1 | refine below_set ?_ GE215.out | refine below_set ?_ GE221.out) | exact HB.out)⟩⟩
     ·replace c16 := Bool.eq_false_iff.mpr c16
      subst c16
      have H1 : (pleatref02_Encode.j1 kj1 true a0_0 a0_1 a0_2 a0_3 a0_4) = some (r1, r2) := by rw [if_neg (show ¬ (false = true) by decide)] at H; exact H
      clear H
      have H := H1
      clear H1
      have H' := Aside0.mk H
      clear H
      have hnb32 := NB221_215.out
      have hnc32 := NB215_221.out
      have hcz33_0 : w12.cell? ⟨gb221, 0, none⟩ = some (.bool false) := (blk_cell BK221.out 0).trans rfl
      have hcz33_1 : w12.cell? ⟨gb221, 1, none⟩ = some (.bool false) := (blk_cell BK221.out 1).trans rfl
      have hcz33_2 : w12.cell? ⟨gb221, 2, none⟩ = some (.bool false) := (blk_cell BK221.out 2).trans rfl
      have hcz33_3 : w12.cell? ⟨gb221, 3, none⟩ = some (.bool false) := (blk_cell BK221.out 3).trans rfl
      have hcz33_4 : w12.cell? ⟨gb221, 4, none⟩ = some (.bool false) := (blk_cell BK221.out 4).trans rfl
      have hfz33_0 := blk_frozen BK221.out 0
      have hfz33_1 := blk_frozen BK221.out 1
      have hfz33_2 := blk_frozen BK221.out 2
      have hfz33_3 := blk_frozen BK221.out 3
      have hfz33_4 := blk_frozen BK221.out 4
      have hcz34_0 : w12.cell? ⟨gb215, 0, none⟩ = some (.int .i8 a0_0) := (blk_cell BK215.out 0).trans rfl
      have hcz34_1 : w12.cell? ⟨gb215, 1, none⟩ = some (.int .i8 a0_1) := (blk_cell BK215.out 1).trans rfl
      have hcz34_2 : w12.cell? ⟨gb215, 2, none⟩ = some (.int .i8 a0_2) := (blk_cell BK215.out 2).trans rfl
      have hcz34_3 : w12.cell? ⟨gb215, 3, none⟩ = some (.int .i8 a0_3) := (blk_cell BK215.out 3).trans rfl
      have hcz34_4 : w12.cell? ⟨gb215, 4, none⟩ = some (.int .i64 a0_4) := (blk_cell BK215.out 4).trans rfl
      have hfz34_0 := blk_frozen BK215.out 0
      have hfz34_1 := blk_frozen BK215.out 1
      have hfz34_2 := blk_frozen BK215.out 2
      have hfz34_3 := blk_frozen BK215.out 3
      have hfz34_4 := blk_frozen BK215.out 4
      go_wp2_with (first | ((with_reducible refine gate_callee (f := 42) rfl ?_); refine goesL_ (some 22) rfl rfl Try.func42 (by kernel_rfl) rfl #[.bool t216, .int .i8 a0_1] rfl (by (try simp only [List.map_toArray, List.map_cons, List.map_nil]); first | done | rfl | (simp only [List.length_drop, List.length_take]; rfl)) ?_; (with_reducible refine (pleatref02_register.calls t216 a0_1 false _ A15.out).mono ?_); rintro e w' ⟨rfl, ⟨nd, rfl⟩⟩; refine ⟨_, rfl, ?_⟩))
      go_meet
      case rel => exact ⟨_, (true), (by first | rfl | (simp; done) | (simp [*]; done)), H', ⟨by have := HJ1.out; first | omega | exact Nat.le_refl _⟩, ⟨by (with_reducible repeat (first | refine blk_drewN ?_ _ | refine blk_drew ?_ | refine blk_alloc ?_ _)); refine blk_far ?_ NB215_221.out _; (with_reducible repeat (first | refine blk_drewN ?_ _ | refine blk_drew ?_ | refine blk_alloc ?_ _)); refine blk_far ?_ NB215_221.out _; (with_reducible repeat (first | refine blk_drewN ?_ _ | refine blk_drew ?_ | refine blk_alloc ?_ _)); refine blk_far ?_ NB215_221.out _; (with_reducible repeat (first | refine blk_drewN ?_ _ | refine blk_drew ?_ | refine blk_alloc ?_ _)); refine blk_far ?_ NB215_221.out _; (with_reducible repeat (first | refine blk_drewN ?_ _ | refine blk_drew ?_ | refine blk_alloc ?_ _)); refine blk_far ?_ NB215_221.out _; (with_reducible repeat (first | refine blk_drewN ?_ _ | refine blk_drew ?_ | refine blk_alloc ?_ _)); exact BK215.out⟩, ⟨by (with_reducible repeat (first | refine blk_drewN ?_ _ | refine blk_drew ?_ | refine blk_alloc ?_ _)); refine blk_put (cs := #[.bool t216, .bool t217, .bool t218, .bool t219, .bool false]) ?_ 4 _ rfl; (with_reducible repeat (first | refine blk_drewN ?_ _ | refine blk_drew ?_ | refine blk_alloc ?_ _)); refine blk_put (cs := #[.bool t216, .bool t217, .bool t218, .bool false, .bool false]) ?_ 3 _ rfl; (with_reducible repeat (first | refine blk_drewN ?_ _ | refine blk_drew ?_ | refine blk_alloc ?_ _)); refine blk_put (cs := #[.bool t216, .bool t217, .bool false, .bool false, .bool false]) ?_ 2 _ rfl; (with_reducible repeat (first | refine blk_drewN ?_ _ | refine blk_drew ?_ | refine blk_alloc ?_ _)); refine blk_put (cs := #[.bool t216, .bool false, .bool false, .bool false, .bool false]) ?_ 1 _ rfl; (with_reducible repeat (first | refine blk_drewN ?_ _ | refine blk_drew ?_ | refine blk_alloc ?_ _)); refine blk_put (cs := #[.bool false, .bool false, .bool false, .bool false, .bool false]) ?_ 0 _ rfl; (with_reducible repeat (first | refine blk_drewN ?_ _ | refine blk_drew ?_ | refine blk_alloc ?_ _)); exact BK221.out⟩, ⟨by repeat (first | (with_reducible first | exact HB.out | apply below_alloc | apply pw_below_drewN | apply below_drew1 | refine below_set ?_ GE215.out | refine below_set ?_ GE221.out) | exact HB.out)⟩⟩
    case rest =>
     clear HC9
     try clear c1
     try clear c2
     try clear p2
     try clear c3
     try clear c4
     try clear c4b0
     try clear c7
     try clear c13
     try clear c16
     try clear c18
     try clear c20
     try clear c22
     try clear c24
     try clear c25
     try clear c26
     try clear c29
     try clear c32
     try clear hcz10_0
     try clear hcz10_1
     try clear hcz10_2
     try clear hcz10_3
     try clear hcz10_4
     try clear hcz14_0
     try clear hcz14_1
     try clear hcz14_2
     try clear hcz14_3
     try clear hcz14_4
     try clear hcz23_0
     try clear hcz23_1
     try clear hcz23_2
     try clear hcz23_3
     try clear hcz23_4
     try clear hcz24_0
     try clear hcz24_1
     try clear hcz24_2
     try clear hcz24_3
     try clear hcz24_4
     try clear hcz27_0
     try clear hcz27_1
     try clear hcz27_2
     try clear hcz27_3
     try clear hcz27_4
     try clear hcz28_0
     try clear hcz28_1
     try clear hcz28_2
     try clear hcz28_3
     try clear hcz28_4
     try clear hcz30_0
     try clear hcz30_1
     try clear hcz30_2
     try clear hcz30_3
     try clear hcz30_4
     try clear hcz31_0
     try clear hcz31_1
     try clear hcz31_2
     try clear hcz31_3
     try clear hcz31_4
     try clear hcz33_0
     try clear hcz33_1
     try clear hcz33_2
     try clear hcz33_3
     try clear hcz33_4
     try clear hcz34_0
     try clear hcz34_1
     try clear hcz34_2
     try clear hcz34_3
     try clear hcz34_4
     try clear hcz5_0
     try clear hcz5_1
     try clear hcz5_2
     try clear hcz5_3
     try clear hcz5_4
     try clear hcz6_0
     try clear hcz6_1
     try clear hcz6_2
     try clear hcz6_3
     try clear hcz6_4
     try clear hfz10_0
     try clear hfz10_1
     try clear hfz10_2
     try clear hfz10_3
     try clear hfz10_4
     try clear hfz14_0
     try clear hfz14_1
     try clear hfz14_2
     try clear hfz14_3
     try clear hfz14_4
     try clear hfz23_0
     try clear hfz23_1
     try clear hfz23_2
     try clear hfz23_3
     try clear hfz23_4
     try clear hfz24_0
     try clear hfz24_1
     try clear hfz24_2
     try clear hfz24_3
     try clear hfz24_4
     try clear hfz27_0
     try clear hfz27_1
     try clear hfz27_2
     try clear hfz27_3
     try clear hfz27_4
     try clear hfz28_0
     try clear hfz28_1
     try clear hfz28_2
     try clear hfz28_3
     try clear hfz28_4
     try clear hfz30_0
     try clear hfz30_1
     try clear hfz30_2
     try clear hfz30_3
     try clear hfz30_4
     try clear hfz31_0
     try clear hfz31_1
     try clear hfz31_2
     try clear hfz31_3
     try clear hfz31_4
     try clear hfz33_0
     try clear hfz33_1
     try clear hfz33_2
     try clear hfz33_3
     try clear hfz33_4
     try clear hfz34_0
     try clear hfz34_1
     try clear hfz34_2
     try clear hfz34_3
     try clear hfz34_4
     try clear hfz5_0
     try clear hfz5_1
     try clear hfz5_2
     try clear hfz5_3
     try clear hfz5_4
     try clear hfz6_0
     try clear hfz6_1
     try clear hfz6_2
     try clear hfz6_3
     try clear hfz6_4
     try clear p2
     obtain ⟨kq, x46_8, rfl, HA, HJ8, BK215, BK221, HB⟩ := hcut
     cases kq with
     | zero => exact absurd HA.out (by simp [pleatref02_Encode.j1])
     | succ kj8 =>
      have H := HA.out
      clear HA
      simp only [pleatref02_Encode.j1] at H
      by_cases c35 : x46_8 = true
      ·subst c35
       have H1 : (some (0, 11)) = some (r1, r2) := by rw [if_pos rfl] at H; exact H
       clear H
       have H := H1
       clear H1
       simp only [Option.some.injEq, Prod.mk.injEq] at H
       obtain ⟨rfl, rfl⟩ := H
       go_wp2
       go_ret2
       exact ⟨by first | rfl | (simp [errW_none, errW_some] <;> rfl) | (simp [*, errW_none, errW_some] <;> rfl), by repeat (first | (with_reducible first | exact HB.out | apply below_alloc | apply pw_below_drewN | apply below_drew1 | refine below_set ?_ GE215.out | refine below_set ?_ GE221.out) | exact HB.out)⟩
      ·replace c35 := Bool.eq_false_iff.mpr c35
       subst c35
       have H1 : (if a0_4 < 0 then (some ((((((((((((((((((a0_0) % 4294967296) * 16) % 4294967296) + ((a0_1) % 4294967296)) % 4294967296) * 16) % 4294967296) + ((a0_2) % 4294967296)) % 4294967296) * 16) % 4294967296) + ((a0_3) % 4294967296)) % 4294967296) * 32768) % 4294967296) + ((wrap64 (a0_4 + 32768)) % 4294967296)) % 4294967296, 0)) else (some ((((((((((((((((((a0_0) % 4294967296) * 16) % 4294967296) + ((a0_1) % 4294967296)) % 4294967296) * 16) % 4294967296) + ((a0_2) % 4294967296)) % 4294967296) * 16) % 4294967296) + ((a0_3) % 4294967296)) % 4294967296) * 32768) % 4294967296) + ((a0_4) % 4294967296)) % 4294967296, 0))) = some (r1, r2) := by rw [if_neg (show ¬ (false = true) by decide)] at H; exact H
       clear H
       have H := H1
       clear H1
       by_cases c36 : a0_4 < 0
       ·rw [if_pos c36] at H
        have c36b0 : decide (a0_4 < 0) = true := decide_eq_true c36
        clear c36
        simp only [Option.some.injEq, Prod.mk.injEq] at H
        obtain ⟨rfl, rfl⟩ := H
        have hnb37 := NB215_221.out
        have hnc37 := NB221_215.out
        have hcz38_0 : wc.cell? ⟨gb215, 0, none⟩ = some (.int .i8 a0_0) := (blk_cell BK215.out 0).trans rfl
        have hcz38_1 : wc.cell? ⟨gb215, 1, none⟩ = some (.int .i8 a0_1) := (blk_cell BK215.out 1).trans rfl
        have hcz38_2 : wc.cell? ⟨gb215, 2, none⟩ = some (.int .i8 a0_2) := (blk_cell BK215.out 2).trans rfl
        have hcz38_3 : wc.cell? ⟨gb215, 3, none⟩ = some (.int .i8 a0_3) := (blk_cell BK215.out 3).trans rfl
        have hcz38_4 : wc.cell? ⟨gb215, 4, none⟩ = some (.int .i64 a0_4) := (blk_cell BK215.out 4).trans rfl
        have hfz38_0 := blk_frozen BK215.out 0
        have hfz38_1 := blk_frozen BK215.out 1
        have hfz38_2 := blk_frozen BK215.out 2
        have hfz38_3 := blk_frozen BK215.out 3
        have hfz38_4 := blk_frozen BK215.out 4
        go_wp2
        go_ret2
        exact ⟨by first | rfl | (simp [errW_none, errW_some] <;> rfl) | (simp [*, errW_none, errW_some] <;> rfl), by repeat (first | (with_reducible first | exact HB.out | apply below_alloc | apply pw_below_drewN | apply below_drew1 | refine below_set ?_ GE215.out | refine below_set ?_ GE221.out) | exact HB.out)⟩
       ·rw [if_neg c36] at H
        have c36b0 : decide (a0_4 < 0) = false := decide_eq_false c36
        clear c36
        simp only [Option.some.injEq, Prod.mk.injEq] at H
        obtain ⟨rfl, rfl⟩ := H
        have hnb39 := NB215_221.out
        have hnc39 := NB221_215.out
        have hcz40_0 : wc.cell? ⟨gb215, 0, none⟩ = some (.int .i8 a0_0) := (blk_cell BK215.out 0).trans rfl
        have hcz40_1 : wc.cell? ⟨gb215, 1, none⟩ = some (.int .i8 a0_1) := (blk_cell BK215.out 1).trans rfl
        have hcz40_2 : wc.cell? ⟨gb215, 2, none⟩ = some (.int .i8 a0_2) := (blk_cell BK215.out 2).trans rfl
        have hcz40_3 : wc.cell? ⟨gb215, 3, none⟩ = some (.int .i8 a0_3) := (blk_cell BK215.out 3).trans rfl
        have hcz40_4 : wc.cell? ⟨gb215, 4, none⟩ = some (.int .i64 a0_4) := (blk_cell BK215.out 4).trans rfl
        have hfz40_0 := blk_frozen BK215.out 0
        have hfz40_1 := blk_frozen BK215.out 1
        have hfz40_2 := blk_frozen BK215.out 2
        have hfz40_3 := blk_frozen BK215.out 3
        have hfz40_4 := blk_frozen BK215.out 4
        go_wp2
        go_ret2
        exact ⟨by first | rfl | (simp [errW_none, errW_some] <;> rfl) | (simp [*, errW_none, errW_some] <;> rfl), by repeat (first | (with_reducible first | exact HB.out | apply below_alloc | apply pw_below_drewN | apply below_drew1 | refine below_set ?_ GE215.out | refine below_set ?_ GE221.out) | exact HB.out)⟩

/-! ### pleatref02_Decode: function 15 -/
def pleatref02_Decode.j0 : Nat → Int → Bool → Int → Int → Int → Int → Int → Option (Int × Int × Int × Int × Int)
 | 0, _, _, _, _, _, _, _ => none
 | k + 1, x0, x40, x228000, x228001, x228002, x228003, x228004 => if x40 = true then ((pleatref02_Encode.f k x228000 x228001 x228002 x228003 (wrap64 (x228004 - 32768))).bind fun bt234 => (if bt234.2 = 0 then (if bt234.1 = x0 then (some (x228000, x228001, x228002, x228003, wrap64 (x228004 - 32768))) else (some ((-1), 0, 0, 0, wrap64 (x0)))) else (some ((-1), 0, 0, 0, wrap64 (x0))))) else ((pleatref02_Encode.f k x228000 x228001 x228002 x228003 x228004).bind fun bt236 => (if bt236.2 = 0 then (if bt236.1 = x0 then (some (x228000, x228001, x228002, x228003, x228004)) else (some ((-1), 0, 0, 0, wrap64 (x0)))) else (some ((-1), 0, 0, 0, wrap64 (x0)))))
def pleatref02_Decode.f (k : Nat) (a0 : Int) : Option (Int × Int × Int × Int × Int) := (pleatref02_Has.f k (IntKind.i8.wrap (a0 / 134217728))).bind fun bt228 => (if bt228.2.2.2.1 = true then (if bt228.2.2.2.2 = true then (pleatref02_Decode.j0 k a0 false (IntKind.i8.wrap (a0 / 134217728)) (IntKind.i8.wrap (Go.bits .and .u32 (a0 / 8388608) 15)) (IntKind.i8.wrap (Go.bits .and .u32 (a0 / 524288) 15)) (IntKind.i8.wrap (Go.bits .and .u32 (a0 / 32768) 15)) (wrap64 (Go.bits .and .u32 a0 32767))) else (pleatref02_Decode.j0 k a0 (decide ((wrap64 (Go.bits .and .u32 a0 32767)) ≥ 16384)) (IntKind.i8.wrap (a0 / 134217728)) (IntKind.i8.wrap (Go.bits .and .u32 (a0 / 8388608) 15)) (IntKind.i8.wrap (Go.bits .and .u32 (a0 / 524288) 15)) (IntKind.i8.wrap (Go.bits .and .u32 (a0 / 32768) 15)) (wrap64 (Go.bits .and .u32 a0 32767)))) else (pleatref02_Decode.j0 k a0 false (IntKind.i8.wrap (a0 / 134217728)) (IntKind.i8.wrap (Go.bits .and .u32 (a0 / 8388608) 15)) (IntKind.i8.wrap (Go.bits .and .u32 (a0 / 524288) 15)) (IntKind.i8.wrap (Go.bits .and .u32 (a0 / 32768) 15)) (wrap64 (Go.bits .and .u32 a0 32767))))
theorem pleatref02_Decode.mono_l : ∀ k, (∀ y0 y1 y2 y3 y4 y5 y6, LeO (pleatref02_Decode.j0 k y0 y1 y2 y3 y4 y5 y6) (pleatref02_Decode.j0 (k + 1) y0 y1 y2 y3 y4 y5 y6))
 | 0 => fun _ _ _ _ _ _ _ r h => by simp [pleatref02_Decode.j0] at h
 | k + 1 => by
  have ih0 := pleatref02_Decode.mono_l k
  ·intro y0 y1 y2 y3 y4 y5 y6
   unfold pleatref02_Decode.j0
   repeat' first
   | (with_reducible exact ih0 _ _ _ _ _ _ _)
   | (with_reducible exact pleatref02_Encode.mono _ _ _ _ _ _)
   | (with_reducible exact pleatref02_Has.mono _ _)
   | (with_reducible exact LeO.refl _)
   | (with_reducible exact LeO.none _)
   | (with_reducible refine LeO.ite ?_ ?_)
   | (with_reducible refine LeO.bind ?_ (fun _ => ?_))
   | exact ih0 _ _ _ _ _ _ _
   | exact pleatref02_Encode.mono _ _ _ _ _ _
   | exact pleatref02_Has.mono _ _
   | exact LeO.none _
   | refine LeO.ite ?_ ?_
   | refine LeO.bind ?_ (fun _ => ?_)
theorem pleatref02_Decode.mono : ∀ a0 k, LeO (pleatref02_Decode.f k a0) (pleatref02_Decode.f (k + 1) a0) := by
 intro a0 k
 have ih0 := pleatref02_Decode.mono_l k
 unfold pleatref02_Decode.f
 repeat' first
   | (with_reducible exact ih0 _ _ _ _ _ _ _)
   | (with_reducible exact pleatref02_Encode.mono _ _ _ _ _ _)
   | (with_reducible exact pleatref02_Has.mono _ _)
   | (with_reducible exact LeO.refl _)
   | (with_reducible exact LeO.none _)
   | (with_reducible refine LeO.ite ?_ ?_)
   | (with_reducible refine LeO.bind ?_ (fun _ => ?_))
   | exact ih0 _ _ _ _ _ _ _
   | exact pleatref02_Encode.mono _ _ _ _ _ _
   | exact pleatref02_Has.mono _ _
   | exact LeO.none _
   | refine LeO.ite ?_ ?_
   | refine LeO.bind ?_ (fun _ => ?_)
set_option maxHeartbeats 8000000 in
set_option maxRecDepth 100000 in
theorem pleatref02_Decode.calls (k : Nat) (a0 : Int) (r1 : Int) (r2 : Int) (r3 : Int) (r4 : Int) (r5 : Int) (w : World) (h : pleatref02_Decode.f k a0 = some (r1, r2, r3, r4, r5)) :
  Calls Try.prog 15 #[.int .u32 a0] w fun e w' => e = .returned (.agg #[.int .i8 r1, .int .i8 r2, .int .i8 r3, .int .i8 r4, .int .i64 r5]) ∧ Below w.heap.size w w' := by
 have hu40 := Try.underlying40
 have hu57 := Try.underlying57
 have HB := Aside0.mk (Below.refl w.heap.size w)
 have H : ((pleatref02_Has.f k (IntKind.i8.wrap (a0 / 134217728))).bind fun bt228 => (if bt228.2.2.2.1 = true then (if bt228.2.2.2.2 = true then (pleatref02_Decode.j0 k a0 false (IntKind.i8.wrap (a0 / 134217728)) (IntKind.i8.wrap (Go.bits .and .u32 (a0 / 8388608) 15)) (IntKind.i8.wrap (Go.bits .and .u32 (a0 / 524288) 15)) (IntKind.i8.wrap (Go.bits .and .u32 (a0 / 32768) 15)) (wrap64 (Go.bits .and .u32 a0 32767))) else (pleatref02_Decode.j0 k a0 (decide ((wrap64 (Go.bits .and .u32 a0 32767)) ≥ 16384)) (IntKind.i8.wrap (a0 / 134217728)) (IntKind.i8.wrap (Go.bits .and .u32 (a0 / 8388608) 15)) (IntKind.i8.wrap (Go.bits .and .u32 (a0 / 524288) 15)) (IntKind.i8.wrap (Go.bits .and .u32 (a0 / 32768) 15)) (wrap64 (Go.bits .and .u32 a0 32767)))) else (pleatref02_Decode.j0 k a0 false (IntKind.i8.wrap (a0 / 134217728)) (IntKind.i8.wrap (Go.bits .and .u32 (a0 / 8388608) 15)) (IntKind.i8.wrap (Go.bits .and .u32 (a0 / 524288) 15)) (IntKind.i8.wrap (Go.bits .and .u32 (a0 / 32768) 15)) (wrap64 (Go.bits .and .u32 a0 32767))))) = some (r1, r2, r3, r4, r5) := h
 clear h
 replace H := Option.bind_eq_some_iff.mp H
 obtain ⟨⟨t228, t229, t230, t231, t232⟩, A20, H⟩ := H
 replace H : (if t231 = true then (if t232 = true then (pleatref02_Decode.j0 k a0 false (IntKind.i8.wrap (a0 / 134217728)) (IntKind.i8.wrap (Go.bits .and .u32 (a0 / 8388608) 15)) (IntKind.i8.wrap (Go.bits .and .u32 (a0 / 524288) 15)) (IntKind.i8.wrap (Go.bits .and .u32 (a0 / 32768) 15)) (wrap64 (Go.bits .and .u32 a0 32767))) else (pleatref02_Decode.j0 k a0 (decide ((wrap64 (Go.bits .and .u32 a0 32767)) ≥ 16384)) (IntKind.i8.wrap (a0 / 134217728)) (IntKind.i8.wrap (Go.bits .and .u32 (a0 / 8388608) 15)) (IntKind.i8.wrap (Go.bits .and .u32 (a0 / 524288) 15)) (IntKind.i8.wrap (Go.bits .and .u32 (a0 / 32768) 15)) (wrap64 (Go.bits .and .u32 a0 32767)))) else (pleatref02_Decode.j0 k a0 false (IntKind.i8.wrap (a0 / 134217728)) (IntKind.i8.wrap (Go.bits .and .u32 (a0 / 8388608) 15)) (IntKind.i8.wrap (Go.bits .and .u32 (a0 / 524288) 15)) (IntKind.i8.wrap (Go.bits .and .u32 (a0 / 32768) 15)) (wrap64 (Go.bits .and .u32 a0 32767)))) = some (r1, r2, r3, r4, r5) := H
 have A2 := Aside0.mk A20
 clear A20
 have HC3 := Aside0.mk H
 clear H
 go_enter Try.func15, Try.ntmps15
 go_upto_region 3 with (first | ((with_reducible refine gate_dst (N := 2) rfl ?_); refine box_event ?hg (N := 2) ?hd (cs := #[.int .i8 0, .int .i8 0, .int .i8 0, .int .i8 0, .int .i64 0]) (t := 40) ?hr ?_; (case hd => rfl); (case hg => rfl); (case hr => first | (go_simp; done) | (go_simp; rfl)); intro gb226 hg w4 hbox hb; have n0_ := Aside0.mk (below_step (by repeat (first | (with_reducible first | exact HB.out | apply below_alloc | apply pw_below_drewN | apply below_drew1) | exact HB.out)) hb); have n1_ := Aside0.mk (hbox); have n2_ := Aside0.mk ((by rw [hg]; exact (below_size (by repeat (first | (with_reducible first | exact HB.out | apply below_alloc | apply pw_below_drewN | apply below_drew1) | exact HB.out))) : w.heap.size ≤ gb226)); have n3_ := Aside0.mk ((by rw [hg]; exact (below_size (by repeat (first | (with_reducible first | exact HB.out | apply below_alloc | apply pw_below_drewN | apply below_drew1) | exact HB.out))) : w.heap.size ≤ gb226)); clear HB; have HB := n0_; have BK226 := n1_; have GW226 := n2_; have GE226 := n3_; clear n0_ n1_ n2_ n3_; clear hb hbox hg) | ((with_reducible refine gate_dst (N := 3) rfl ?_); refine box_event ?hg (N := 3) ?hd (cs := #[.int .i8 0, .int .i8 0, .int .i8 0, .int .i8 0, .int .i64 0]) (t := 40) ?hr ?_; (case hd => rfl); (case hg => rfl); (case hr => first | (go_simp; done) | (go_simp; rfl)); intro gb227 hg w5 hbox hb; have n0_ := Aside0.mk (blk_below (g := gb226) (o := .cells #[.int .i8 0, .int .i8 0, .int .i8 0, .int .i8 0, .int .i64 0] 40 (0, 0)) (by (with_reducible repeat (first | refine blk_drewN ?_ _ | refine blk_drew ?_ | refine blk_alloc ?_ _)); exact BK226.out) hb); have n1_ := Aside0.mk (below_step (by repeat (first | (with_reducible first | exact HB.out | apply below_alloc | apply pw_below_drewN | apply below_drew1 | refine below_set ?_ GE226.out) | exact HB.out)) hb); have n2_ := Aside0.mk (hbox); have n3_ := Aside0.mk ((by rw [hg]; exact (below_size (by repeat (first | (with_reducible first | exact HB.out | apply below_alloc | apply pw_below_drewN | apply below_drew1 | refine below_set ?_ GE226.out) | exact HB.out))) : w.heap.size ≤ gb227)); have n4_ := Aside0.mk ((by rw [hg]; exact (below_size (by repeat (first | (with_reducible first | exact HB.out | apply below_alloc | apply pw_below_drewN | apply below_drew1 | refine below_set ?_ GE226.out) | exact HB.out))) : w.heap.size ≤ gb227)); have n5_ := Aside0.mk ((by rw [hg]; exact Nat.ne_of_lt (blk_lt (g := gb226) (o := .cells #[.int .i8 0, .int .i8 0, .int .i8 0, .int .i8 0, .int .i64 0] 40 (0, 0)) (by (with_reducible repeat (first | refine blk_drewN ?_ _ | refine blk_drew ?_ | refine blk_alloc ?_ _)); exact BK226.out)) : gb226 ≠ gb227)); have n6_ := Aside0.mk ((by rw [hg]; exact Nat.ne_of_gt (blk_lt (g := gb226) (o := .cells #[.int .i8 0, .int .i8 0, .int .i8 0, .int .i8 0, .int .i64 0] 40 (0, 0)) (by (with_reducible repeat (first | refine blk_drewN ?_ _ | refine blk_drew ?_ | refine blk_alloc ?_ _)); exact BK226.out)) : gb227 ≠ gb226)); clear BK226; clear HB; have BK226 := n0_; have HB := n1_; have BK227 := n2_; have GW227 := n3_; have GE227 := n4_; have NB226_227 := n5_; have NB227_226 := n6_; clear n0_ n1_ n2_ n3_ n4_ n5_ n6_; clear hb hbox hg; have hnb6 := NB227_226.out; have hnc6 := NB226_227.out; have hcz7_0 : w5.cell? ⟨gb227, 0, none⟩ = some (.int .i8 0) := (blk_cell BK227.out 0).trans rfl; have hcz7_1 : w5.cell? ⟨gb227, 1, none⟩ = some (.int .i8 0) := (blk_cell BK227.out 1).trans rfl; have hcz7_2 : w5.cell? ⟨gb227, 2, none⟩ = some (.int .i8 0) := (blk_cell BK227.out 2).trans rfl; have hcz7_3 : w5.cell? ⟨gb227, 3, none⟩ = some (.int .i8 0) := (blk_cell BK227.out 3).trans rfl; have hcz7_4 : w5.cell? ⟨gb227, 4, none⟩ = some (.int .i64 0) := (blk_cell BK227.out 4).trans rfl; have hfz7_0 := blk_frozen BK227.out 0; have hfz7_1 := blk_frozen BK227.out 1; have hfz7_2 := blk_frozen BK227.out 2; have hfz7_3 := blk_frozen BK227.out 3; have hfz7_4 := blk_frozen BK227.out 4) | ((with_reducible refine gate_callee (f := 24) rfl ?_); refine goesL_ (some 28) rfl rfl Try.func24 (by kernel_rfl) rfl #[.int .i8 (IntKind.i8.wrap (a0 / 134217728))] rfl (by (try simp only [List.map_toArray, List.map_cons, List.map_nil]); first | done | rfl | (simp only [List.length_drop, List.length_take]; rfl)) ?_; (with_reducible refine (pleatref02_Has.calls k (IntKind.i8.wrap (a0 / 134217728)) t228 t229 t230 t231 t232 _ A2.out).mono ?_); rintro e w8 ⟨rfl, hb⟩; refine ⟨_, rfl, ?_⟩; have n0_ := Aside0.mk (blk_below (g := gb226) (o := .cells #[.int .i8 0, .int .i8 0, .int .i8 0, .int .i8 0, .int .i64 0] 40 (0, 0)) (by (with_reducible repeat (first | refine blk_drewN ?_ _ | refine blk_drew ?_ | refine blk_alloc ?_ _)); refine blk_far ?_ NB226_227.out _; (with_reducible repeat (first | refine blk_drewN ?_ _ | refine blk_drew ?_ | refine blk_alloc ?_ _)); refine blk_far ?_ NB226_227.out _; (with_reducible repeat (first | refine blk_drewN ?_ _ | refine blk_drew ?_ | refine blk_alloc ?_ _)); refine blk_far ?_ NB226_227.out _; (with_reducible repeat (first | refine blk_drewN ?_ _ | refine blk_drew ?_ | refine blk_alloc ?_ _)); refine blk_far ?_ NB226_227.out _; (with_reducible repeat (first | refine blk_drewN ?_ _ | refine blk_drew ?_ | refine blk_alloc ?_ _)); refine blk_far ?_ NB226_227.out _; (with_reducible repeat (first | refine blk_drewN ?_ _ | refine blk_drew ?_ | refine blk_alloc ?_ _)); exact BK226.out) hb); have n1_ := Aside0.mk (blk_below (g := gb227) (o := .cells #[.int .i8 (IntKind.i8.wrap (a0 / 134217728)), .int .i8 (IntKind.i8.wrap (Go.bits .and .u32 (a0 / 8388608) 15)), .int .i8 (IntKind.i8.wrap (Go.bits .and .u32 (a0 / 524288) 15)), .int .i8 (IntKind.i8.wrap (Go.bits .and .u32 (a0 / 32768) 15)), .int .i64 (wrap64 (Go.bits .and .u32 a0 32767))] 40 (0, 0)) (by (with_reducible repeat (first | refine blk_drewN ?_ _ | refine blk_drew ?_ | refine blk_alloc ?_ _)); refine blk_put (cs := #[.int .i8 (IntKind.i8.wrap (a0 / 134217728)), .int .i8 (IntKind.i8.wrap (Go.bits .and .u32 (a0 / 8388608) 15)), .int .i8 (IntKind.i8.wrap (Go.bits .and .u32 (a0 / 524288) 15)), .int .i8 (IntKind.i8.wrap (Go.bits .and .u32 (a0 / 32768) 15)), .int .i64 0]) ?_ 4 _ rfl; (with_reducible repeat (first | refine blk_drewN ?_ _ | refine blk_drew ?_ | refine blk_alloc ?_ _)); refine blk_put (cs := #[.int .i8 (IntKind.i8.wrap (a0 / 134217728)), .int .i8 (IntKind.i8.wrap (Go.bits .and .u32 (a0 / 8388608) 15)), .int .i8 (IntKind.i8.wrap (Go.bits .and .u32 (a0 / 524288) 15)), .int .i8 0, .int .i64 0]) ?_ 3 _ rfl; (with_reducible repeat (first | refine blk_drewN ?_ _ | refine blk_drew ?_ | refine blk_alloc ?_ _)); refine blk_put (cs := #[.int .i8 (IntKind.i8.wrap (a0 / 134217728)), .int .i8 (IntKind.i8.wrap (Go.bits .and .u32 (a0 / 8388608) 15)), .int .i8 0, .int .i8 0, .int .i64 0]) ?_ 2 _ rfl; (with_reducible repeat (first | refine blk_drewN ?_ _ | refine blk_drew ?_ | refine blk_alloc ?_ _)); refine blk_put (cs := #[.int .i8 (IntKind.i8.wrap (a0 / 134217728)), .int .i8 0, .int .i8 0, .int .i8 0, .int .i64 0]) ?_ 1 _ rfl; (with_reducible repeat (first | refine blk_drewN ?_ _ | refine blk_drew ?_ | refine blk_alloc ?_ _)); refine blk_put (cs := #[.int .i8 0, .int .i8 0, .int .i8 0, .int .i8 0, .int .i64 0]) ?_ 0 _ rfl; (with_reducible repeat (first | refine blk_drewN ?_ _ | refine blk_drew ?_ | refine blk_alloc ?_ _)); exact BK227.out) hb); have n2_ := Aside0.mk (below_step (by repeat (first | (with_reducible first | exact HB.out | apply below_alloc | apply pw_below_drewN | apply below_drew1 | refine below_set ?_ GE226.out | refine below_set ?_ GE227.out) | exact HB.out)) hb); clear BK226; clear BK227; clear HB; have BK226 := n0_; have BK227 := n1_; have HB := n2_; clear n0_ n1_ n2_; (try clear hb); (try clear hb2); (try clear hk); (try clear hi)) | ((with_reducible refine gate_dst (N := 4) rfl ?_); refine box_event ?hg (N := 4) ?hd (cs := #[.bool false, .bool false, .bool false, .bool false, .bool false]) (t := 57) ?hr ?_; (case hd => rfl); (case hg => rfl); (case hr => first | (go_simp; done) | (go_simp; rfl)); intro gb233 hg w9 hbox hb; have n0_ := Aside0.mk (blk_below (g := gb226) (o := .cells #[.int .i8 0, .int .i8 0, .int .i8 0, .int .i8 0, .int .i64 0] 40 (0, 0)) (by (with_reducible repeat (first | refine blk_drewN ?_ _ | refine blk_drew ?_ | refine blk_alloc ?_ _)); exact BK226.out) hb); have n1_ := Aside0.mk (blk_below (g := gb227) (o := .cells #[.int .i8 (IntKind.i8.wrap (a0 / 134217728)), .int .i8 (IntKind.i8.wrap (Go.bits .and .u32 (a0 / 8388608) 15)), .int .i8 (IntKind.i8.wrap (Go.bits .and .u32 (a0 / 524288) 15)), .int .i8 (IntKind.i8.wrap (Go.bits .and .u32 (a0 / 32768) 15)), .int .i64 (wrap64 (Go.bits .and .u32 a0 32767))] 40 (0, 0)) (by (with_reducible repeat (first | refine blk_drewN ?_ _ | refine blk_drew ?_ | refine blk_alloc ?_ _)); exact BK227.out) hb); have n2_ := Aside0.mk (below_step (by repeat (first | (with_reducible first | exact HB.out | apply below_alloc | apply pw_below_drewN | apply below_drew1 | refine below_set ?_ GE226.out | refine below_set ?_ GE227.out) | exact HB.out)) hb); have n3_ := Aside0.mk (hbox); have n4_ := Aside0.mk ((by rw [hg]; exact (below_size (by repeat (first | (with_reducible first | exact HB.out | apply below_alloc | apply pw_below_drewN | apply below_drew1 | refine below_set ?_ GE226.out | refine below_set ?_ GE227.out) | exact HB.out))) : w.heap.size ≤ gb233)); have n5_ := Aside0.mk ((by rw [hg]; exact (below_size (by repeat (first | (with_reducible first | exact HB.out | apply below_alloc | apply pw_below_drewN | apply below_drew1 | refine below_set ?_ GE226.out | refine below_set ?_ GE227.out) | exact HB.out))) : w.heap.size ≤ gb233)); have n6_ := Aside0.mk ((by rw [hg]; exact Nat.ne_of_lt (blk_lt (g := gb226) (o := .cells #[.int .i8 0, .int .i8 0, .int .i8 0, .int .i8 0, .int .i64 0] 40 (0, 0)) (by (with_reducible repeat (first | refine blk_drewN ?_ _ | refine blk_drew ?_ | refine blk_alloc ?_ _)); exact BK226.out)) : gb226 ≠ gb233)); have n7_ := Aside0.mk ((by rw [hg]; exact Nat.ne_of_gt (blk_lt (g := gb226) (o := .cells #[.int .i8 0, .int .i8 0, .int .i8 0, .int .i8 0, .int .i64 0] 40 (0, 0)) (by (with_reducible repeat (first | refine blk_drewN ?_ _ | refine blk_drew ?_ | refine blk_alloc ?_ _)); exact BK226.out)) : gb233 ≠ gb226)); have n8_ := Aside0.mk ((by rw [hg]; exact Nat.ne_of_lt (blk_lt (g := gb227) (o := .cells #[.int .i8 (IntKind.i8.wrap (a0 / 134217728)), .int .i8 (IntKind.i8.wrap (Go.bits .and .u32 (a0 / 8388608) 15)), .int .i8 (IntKind.i8.wrap (Go.bits .and .u32 (a0 / 524288) 15)), .int .i8 (IntKind.i8.wrap (Go.bits .and .u32 (a0 / 32768) 15)), .int .i64 (wrap64 (Go.bits .and .u32 a0 32767))] 40 (0, 0)) (by (with_reducible repeat (first | refine blk_drewN ?_ _ | refine blk_drew ?_ | refine blk_alloc ?_ _)); exact BK227.out)) : gb227 ≠ gb233)); have n9_ := Aside0.mk ((by rw [hg]; exact Nat.ne_of_gt (blk_lt (g := gb227) (o := .cells #[.int .i8 (IntKind.i8.wrap (a0 / 134217728)), .int .i8 (IntKind.i8.wrap (Go.bits .and .u32 (a0 / 8388608) 15)), .int .i8 (IntKind.i8.wrap (Go.bits .and .u32 (a0 / 524288) 15)), .int .i8 (IntKind.i8.wrap (Go.bits .and .u32 (a0 / 32768) 15)), .int .i64 (wrap64 (Go.bits .and .u32 a0 32767))] 40 (0, 0)) (by (with_reducible repeat (first | refine blk_drewN ?_ _ | refine blk_drew ?_ | refine blk_alloc ?_ _)); exact BK227.out)) : gb233 ≠ gb227)); clear BK226; clear BK227; clear HB; have BK226 := n0_; have BK227 := n1_; have HB := n2_; have BK233 := n3_; have GW233 := n4_; have GE233 := n5_; have NB226_233 := n6_; have NB233_226 := n7_; have NB227_233 := n8_; have NB233_227 := n9_; clear n0_ n1_ n2_ n3_ n4_ n5_ n6_ n7_ n8_ n9_; clear hb hbox hg; have hnb10 := NB233_226.out; have hnc10 := NB226_233.out; have hnb11 := NB233_227.out; have hnc11 := NB227_233.out; have hcz12_0 : w9.cell? ⟨gb233, 0, none⟩ = some (.bool false) := (blk_cell BK233.out 0).trans rfl; have hcz12_1 : w9.cell? ⟨gb233, 1, none⟩ = some (.bool false) := (blk_cell BK233.out 1).trans rfl; have hcz12_2 : w9.cell? ⟨gb233, 2, none⟩ = some (.bool false) := (blk_cell BK233.out 2).trans rfl; have hcz12_3 : w9.cell? ⟨gb233, 3, none⟩ = some (.bool false) := (blk_cell BK233.out 3).trans rfl; have hcz12_4 : w9.cell? ⟨gb233, 4, none⟩ = some (.bool false) := (blk_cell BK233.out 4).trans rfl; have hfz12_0 := blk_frozen BK233.out 0; have hfz12_1 := blk_frozen BK233.out 1; have hfz12_2 := blk_frozen BK233.out 2; have hfz12_3 := blk_frozen BK233.out 3; have hfz12_4 := blk_frozen BK233.out 4))
 (try simp only [Act.put, List.setIfInBounds_toArray, List.set_cons_zero, List.set_cons_succ])
 go_cut [40] (fun v40 wc => ∃ (kq : Nat) (x40_2 : Bool), v40 = .bool x40_2 ∧ Aside0 (pleatref02_Decode.j0 kq a0 x40_2 (IntKind.i8.wrap (a0 / 134217728)) (IntKind.i8.wrap (Go.bits .and .u32 (a0 / 8388608) 15)) (IntKind.i8.wrap (Go.bits .and .u32 (a0 / 524288) 15)) (IntKind.i8.wrap (Go.bits .and .u32 (a0 / 32768) 15)) (wrap64 (Go.bits .and .u32 a0 32767)) = some (r1, r2, r3, r4, r5)) ∧ Aside0 (kq ≤ k) ∧ Aside0 (wc.heap[gb226]? = some (.cells #[.int .i8 0, .int .i8 0, .int .i8 0, .int .i8 0, .int .i64 0] 40 (0, 0))) ∧ Aside0 (wc.heap[gb227]? = some (.cells #[.int .i8 (IntKind.i8.wrap (a0 / 134217728)), .int .i8 (IntKind.i8.wrap (Go.bits .and .u32 (a0 / 8388608) 15)), .int .i8 (IntKind.i8.wrap (Go.bits .and .u32 (a0 / 524288) 15)), .int .i8 (IntKind.i8.wrap (Go.bits .and .u32 (a0 / 32768) 15)), .int .i64 (wrap64 (Go.bits .and .u32 a0 32767))] 40 (0, 0))) ∧ Aside0 (wc.heap[gb233]? = some (.cells #[.bool t228, .bool t229, .bool t230, .bool t231, .bool t232] 57 (0, 0))) ∧ Aside0 (Below w.heap.size w wc))
 case first =>
  have H := HC3.out
  clear HC3
  by_cases c13 : t231 = true
  ·subst c13
   have H1 : (if t232 = true then (pleatref02_Decode.j0 k a0 false (IntKind.i8.wrap (a0 / 134217728)) (IntKind.i8.wrap (Go.bits .and .u32 (a0 / 8388608) 15)) (IntKind.i8.wrap (Go.bits .and .u32 (a0 / 524288) 15)) (IntKind.i8.wrap (Go.bits .and .u32 (a0 / 32768) 15)) (wrap64 (Go.bits .and .u32 a0 32767))) else (pleatref02_Decode.j0 k a0 (decide ((wrap64 (Go.bits .and .u32 a0 32767)) ≥ 16384)) (IntKind.i8.wrap (a0 / 134217728)) (IntKind.i8.wrap (Go.bits .and .u32 (a0 / 8388608) 15)) (IntKind.i8.wrap (Go.bits .and .u32 (a0 / 524288) 15)) (IntKind.i8.wrap (Go.bits .and .u32 (a0 / 32768) 15)) (wrap64 (Go.bits .and .u32 a0 32767)))) = some (r1, r2, r3, r4, r5) := by rw [if_pos rfl] at H; exact H
   clear H
   have H := H1
   clear H1
   by_cases c14 : t232 = true
   ·subst c14
    have H1 : (pleatref02_Decode.j0 k a0 false (IntKind.i8.wrap (a0 / 134217728)) (IntKind.i8.wrap (Go.bits .and .u32 (a0 / 8388608) 15)) (IntKind.i8.wrap (Go.bits .and .u32 (a0 / 524288) 15)) (IntKind.i8.wrap (Go.bits .and .u32 (a0 / 32768) 15)) (wrap64 (Go.bits .and .u32 a0 32767))) = some (r1, r2, r3, r4, r5) := by rw [if_pos rfl] at H; exact H
    clear H
    have H := H1
    clear H1
    have H' := Aside0.mk H
    clear H
    have hnb15 := NB233_226.out
    have hnc15 := NB226_233.out
    have hnb16 := NB233_227.out
    have hnc16 := NB227_233.out
    have hcz17_0 : w9.cell? ⟨gb233, 0, none⟩ = some (.bool false) := (blk_cell BK233.out 0).trans rfl
    have hcz17_1 : w9.cell? ⟨gb233, 1, none⟩ = some (.bool false) := (blk_cell BK233.out 1).trans rfl
    have hcz17_2 : w9.cell? ⟨gb233, 2, none⟩ = some (.bool false) := (blk_cell BK233.out 2).trans rfl
    have hcz17_3 : w9.cell? ⟨gb233, 3, none⟩ = some (.bool false) := (blk_cell BK233.out 3).trans rfl
    have hcz17_4 : w9.cell? ⟨gb233, 4, none⟩ = some (.bool false) := (blk_cell BK233.out 4).trans rfl
    have hfz17_0 := blk_frozen BK233.out 0
    have hfz17_1 := blk_frozen BK233.out 1
    have hfz17_2 := blk_frozen BK233.out 2
    have hfz17_3 := blk_frozen BK233.out 3
    have hfz17_4 := blk_frozen BK233.out 4
    go_wp2
    go_meet
    case rel => exact ⟨_, (false), (by first | rfl | (simp; done) | (simp [*]; done)), H', ⟨by first | omega | exact Nat.le_refl _⟩, ⟨by (with_reducible repeat (first | refine blk_drewN ?_ _ | refine blk_drew ?_ | refine blk_alloc ?_ _)); refine blk_far ?_ NB226_233.out _; (with_reducible repeat (first | refine blk_drewN ?_ _ | refine blk_drew ?_ | refine blk_alloc ?_ _)); refine blk_far ?_ NB226_233.out _; (with_reducible repeat (first | refine blk_drewN ?_ _ | refine blk_drew ?_ | refine blk_alloc ?_ _)); refine blk_far ?_ NB226_233.out _; (with_reducible repeat (first | refine blk_drewN ?_ _ | refine blk_drew ?_ | refine blk_alloc ?_ _)); refine blk_far ?_ NB226_233.out _; (with_reducible repeat (first | refine blk_drewN ?_ _ | refine blk_drew ?_ | refine blk_alloc ?_ _)); refine blk_far ?_ NB226_233.out _; (with_reducible repeat (first | refine blk_drewN ?_ _ | refine blk_drew ?_ | refine blk_alloc ?_ _)); exact BK226.out⟩, ⟨by (with_reducible repeat (first | refine blk_drewN ?_ _ | refine blk_drew ?_ | refine blk_alloc ?_ _)); refine blk_far ?_ NB227_233.out _; (with_reducible repeat (first | refine blk_drewN ?_ _ | refine blk_drew ?_ | refine blk_alloc ?_ _)); refine blk_far ?_ NB227_233.out _; (with_reducible repeat (first | refine blk_drewN ?_ _ | refine blk_drew ?_ | refine blk_alloc ?_ _)); refine blk_far ?_ NB227_233.out _; (with_reducible repeat (first | refine blk_drewN ?_ _ | refine blk_drew ?_ | refine blk_alloc ?_ _)); refine blk_far ?_ NB227_233.out _; (with_reducible repeat (first | refine blk_drewN ?_ _ | refine blk_drew ?_ | refine blk_alloc ?_ _)); refine blk_far ?_ NB227_233.out _; (with_reducible repeat (first | refine blk_drewN ?_ _ | refine blk_drew ?_ | refine blk_alloc ?_ _)); exact BK227.out⟩, ⟨by (with_reducible repeat (first | refine blk_drewN ?_ _ | refine blk_drew ?_ | refine blk_alloc ?_ _)); refine blk_put (cs := #[.bool t228, .bool t229, .bool t230, .bool true, .bool false]) ?_ 4 _ rfl; (with_reducible repeat (first | refine blk_drewN ?_ _ | refine blk_drew ?_ | refine blk_alloc ?_ _)); refine blk_put (cs := #[.bool t228, .bool t229, .bool t230, .bool false, .bool false]) ?_ 3 _ rfl; (with_reducible repeat (first | refine blk_drewN ?_ _ | refine blk_drew ?_ | refine blk_alloc ?_ _)); refine blk_put (cs := #[.bool t228, .bool t229, .bool false, .bool false, .bool false]) ?_ 2 _ rfl; (with_reducible repeat (first | refine blk_drewN ?_ _ | refine blk_drew ?_ | refine blk_alloc ?_ _)); refine blk_put (cs := #[.bool t228, .bool false, .bool false, .bool false, .bool false]) ?_ 1 _ rfl; (with_reducible repeat (first | refine blk_drewN ?_ _ | refine blk_drew ?_ | refine blk_alloc ?_ _)); refine blk_put (cs := #[.bool false, .bool false, .bool false, .bool false, .bool false]) ?_ 0 _ rfl; (with_reducible repeat (first | refine blk_drewN ?_ _ | refine blk_drew ?_ | refine blk_alloc ?_ _)); exact BK233.out⟩, ⟨by repeat (first | (with_reducible first | exact HB.out | apply below_alloc | apply pw_below_drewN | apply below_drew1 | refine below_set ?_ GE226.out | refine below_set ?_ GE227.out | refine below_set ?_ GE233.out) | exact HB.out)⟩⟩
   ·replace c14 := Bool.eq_false_iff.mpr c14
    subst c14
    have H1 : (pleatref02_Decode.j0 k a0 (decide ((wrap64 (Go.bits .and .u32 a0 32767)) ≥ 16384)) (IntKind.i8.wrap (a0 / 134217728)) (IntKind.i8.wrap (Go.bits .and .u32 (a0 / 8388608) 15)) (IntKind.i8.wrap (Go.bits .and .u32 (a0 / 524288) 15)) (IntKind.i8.wrap (Go.bits .and .u32 (a0 / 32768) 15)) (wrap64 (Go.bits .and .u32 a0 32767))) = some (r1, r2, r3, r4, r5) := by rw [if_neg (show ¬ (false = true) by decide)] at H; exact H
    clear H
    have H := H1
    clear H1
    have H' := Aside0.mk H
    clear H
    have hnb18 := NB233_226.out
    have hnc18 := NB226_233.out
    have hnb19 := NB233_227.out
    have hnc19 := NB227_233.out
    have hcz20_0 : w9.cell? ⟨gb233, 0, none⟩ = some (.bool false) := (blk_cell BK233.out 0).trans rfl
    have hcz20_1 : w9.cell? ⟨gb233, 1, none⟩ = some (.bool false) := (blk_cell BK233.out 1).trans rfl
    have hcz20_2 : w9.cell? ⟨gb233, 2, none⟩ = some (.bool false) := (blk_cell BK233.out 2).trans rfl
    have hcz20_3 : w9.cell? ⟨gb233, 3, none⟩ = some (.bool false) := (blk_cell BK233.out 3).trans rfl
    have hcz20_4 : w9.cell? ⟨gb233, 4, none⟩ = some (.bool false) := (blk_cell BK233.out 4).trans rfl
    have hfz20_0 := blk_frozen BK233.out 0
    have hfz20_1 := blk_frozen BK233.out 1
    have hfz20_2 := blk_frozen BK233.out 2
    have hfz20_3 := blk_frozen BK233.out 3
    have hfz20_4 := blk_frozen BK233.out 4
    have hnb21 := NB227_226.out
    have hnc21 := NB226_227.out
    have hcz22_0 : w9.cell? ⟨gb227, 0, none⟩ = some (.int .i8 (IntKind.i8.wrap (a0 / 134217728))) := (blk_cell BK227.out 0).trans rfl
    have hcz22_1 : w9.cell? ⟨gb227, 1, none⟩ = some (.int .i8 (IntKind.i8.wrap (Go.bits .and .u32 (a0 / 8388608) 15))) := (blk_cell BK227.out 1).trans rfl
    have hcz22_2 : w9.cell? ⟨gb227, 2, none⟩ = some (.int .i8 (IntKind.i8.wrap (Go.bits .and .u32 (a0 / 524288) 15))) := (blk_cell BK227.out 2).trans rfl
    have hcz22_3 : w9.cell? ⟨gb227, 3, none⟩ = some (.int .i8 (IntKind.i8.wrap (Go.bits .and .u32 (a0 / 32768) 15))) := (blk_cell BK227.out 3).trans rfl
    have hcz22_4 : w9.cell? ⟨gb227, 4, none⟩ = some (.int .i64 (wrap64 (Go.bits .and .u32 a0 32767))) := (blk_cell BK227.out 4).trans rfl
    have hfz22_0 := blk_frozen BK227.out 0
    have hfz22_1 := blk_frozen BK227.out 1
    have hfz22_2 := blk_frozen BK227.out 2
    have hfz22_3 := blk_frozen BK227.out 3
    have hfz22_4 := blk_frozen BK227.out 4
    go_wp2
    go_meet
    case rel => exact ⟨_, (decide ((wrap64 (Go.bits .and .u32 a0 32767)) ≥ 16384)), (by first | rfl | (simp; done) | (simp [*]; done)), H', ⟨by first | omega | exact Nat.le_refl _⟩, ⟨by (with_reducible repeat (first | refine blk_drewN ?_ _ | refine blk_drew ?_ | refine blk_alloc ?_ _)); refine blk_far ?_ NB226_233.out _; (with_reducible repeat (first | refine blk_drewN ?_ _ | refine blk_drew ?_ | refine blk_alloc ?_ _)); refine blk_far ?_ NB226_233.out _; (with_reducible repeat (first | refine blk_drewN ?_ _ | refine blk_drew ?_ | refine blk_alloc ?_ _)); refine blk_far ?_ NB226_233.out _; (with_reducible repeat (first | refine blk_drewN ?_ _ | refine blk_drew ?_ | refine blk_alloc ?_ _)); refine blk_far ?_ NB226_233.out _; (with_reducible repeat (first | refine blk_drewN ?_ _ | refine blk_drew ?_ | refine blk_alloc ?_ _)); refine blk_far ?_ NB226_233.out _; (with_reducible repeat (first | refine blk_drewN ?_ _ | refine blk_drew ?_ | refine blk_alloc ?_ _)); exact BK226.out⟩, ⟨by (with_reducible repeat (first | refine blk_drewN ?_ _ | refine blk_drew ?_ | refine blk_alloc ?_ _)); refine blk_far ?_ NB227_233.out _; (with_reducible repeat (first | refine blk_drewN ?_ _ | refine blk_drew ?_ | refine blk_alloc ?_ _)); refine blk_far ?_ NB227_233.out _; (with_reducible repeat (first | refine blk_drewN ?_ _ | refine blk_drew ?_ | refine blk_alloc ?_ _)); refine blk_far ?_ NB227_233.out _; (with_reducible repeat (first | refine blk_drewN ?_ _ | refine blk_drew ?_ | refine blk_alloc ?_ _)); refine blk_far ?_ NB227_233.out _; (with_reducible repeat (first | refine blk_drewN ?_ _ | refine blk_drew ?_ | refine blk_alloc ?_ _)); refine blk_far ?_ NB227_233.out _; (with_reducible repeat (first | refine blk_drewN ?_ _ | refine blk_drew ?_ | refine blk_alloc ?_ _)); exact BK227.out⟩, ⟨by (with_reducible repeat (first | refine blk_drewN ?_ _ | refine blk_drew ?_ | refine blk_alloc ?_ _)); refine blk_put (cs := #[.bool t228, .bool t229, .bool t230, .bool true, .bool false]) ?_ 4 _ rfl; (with_reducible repeat (first | refine blk_drewN ?_ _ | refine blk_drew ?_ | refine blk_alloc ?_ _)); refine blk_put (cs := #[.bool t228, .bool t229, .bool t230, .bool false, .bool false]) ?_ 3 _ rfl; (with_reducible repeat (first | refine blk_drewN ?_ _ | refine blk_drew ?_ | refine blk_alloc ?_ _)); refine blk_put (cs := #[.bool t228, .bool t229, .bool false, .bool false, .bool false]) ?_ 2 _ rfl; (with_reducible repeat (first | refine blk_drewN ?_ _ | refine blk_drew ?_ | refine blk_alloc ?_ _)); refine blk_put (cs := #[.bool t228, .bool false, .bool false, .bool false, .bool false]) ?_ 1 _ rfl; (with_reducible repeat (first | refine blk_drewN ?_ _ | refine blk_drew ?_ | refine blk_alloc ?_ _)); refine blk_put (cs := #[.bool false, .bool false, .bool false, .bool false, .bool false]) ?_ 0 _ rfl; (with_reducible repeat (first | refine blk_drewN ?_ _ | refine blk_drew ?_ | refine blk_alloc ?_ _)); exact BK233.out⟩, ⟨by repeat (first | (with_reducible first | exact HB.out | apply below_alloc | apply pw_below_drewN | apply below_drew1 | refine below_set ?_ GE226.out | refine below_set ?_ GE227.out | refine below_set ?_ GE233.out) | exact HB.out)⟩⟩
  ·replace c13 := Bool.eq_false_iff.mpr c13
   subst c13
   have H1 : (pleatref02_Decode.j0 k a0 false (IntKind.i8.wrap (a0 / 134217728)) (IntKind.i8.wrap (Go.bits .and .u32 (a0 / 8388608) 15)) (IntKind.i8.wrap (Go.bits .and .u32 (a0 / 524288) 15)) (IntKind.i8.wrap (Go.bits .and .u32 (a0 / 32768) 15)) (wrap64 (Go.bits .and .u32 a0 32767))) = some (r1, r2, r3, r4, r5) := by rw [if_neg (show ¬ (false = true) by decide)] at H; exact H
   clear H
   have H := H1
   clear H1
   have H' := Aside0.mk H
   clear H
   have hnb23 := NB233_226.out
   have hnc23 := NB226_233.out
   have hnb24 := NB233_227.out
   have hnc24 := NB227_233.out
   have hcz25_0 : w9.cell? ⟨gb233, 0, none⟩ = some (.bool false) := (blk_cell BK233.out 0).trans rfl
   have hcz25_1 : w9.cell? ⟨gb233, 1, none⟩ = some (.bool false) := (blk_cell BK233.out 1).trans rfl
   have hcz25_2 : w9.cell? ⟨gb233, 2, none⟩ = some (.bool false) := (blk_cell BK233.out 2).trans rfl
   have hcz25_3 : w9.cell? ⟨gb233, 3, none⟩ = some (.bool false) := (blk_cell BK233.out 3).trans rfl
   have hcz25_4 : w9.cell? ⟨gb233, 4, none⟩ = some (.bool false) := (blk_cell BK233.out 4).trans rfl
   have hfz25_0 := blk_frozen BK233.out 0
   have hfz25_1 := blk_frozen BK233.out 1
   have hfz25_2 := blk_frozen BK233.out 2
   have hfz25_3 := blk_frozen BK233.out 3
   have hfz25_4 := blk_frozen BK233.out 4
   go_wp2
   go_meet
   case rel => exact ⟨_, (false), (by first | rfl | (simp; done) | (simp [*]; done)), H', ⟨by first | omega | exact Nat.le_refl _⟩, ⟨by (with_reducible repeat (first | refine blk_drewN ?_ _ | refine blk_drew ?_ | refine blk_alloc ?_ _)); refine blk_far ?_ NB226_233.out _; (with_reducible repeat (first | refine blk_drewN ?_ _ | refine blk_drew ?_ | refine blk_alloc ?_ _)); refine blk_far ?_ NB226_233.out _; (with_reducible repeat (first | refine blk_drewN ?_ _ | refine blk_drew ?_ | refine blk_alloc ?_ _)); refine blk_far ?_ NB226_233.out _; (with_reducible repeat (first | refine blk_drewN ?_ _ | refine blk_drew ?_ | refine blk_alloc ?_ _)); refine blk_far ?_ NB226_233.out _; (with_reducible repeat (first | refine blk_drewN ?_ _ | refine blk_drew ?_ | refine blk_alloc ?_ _)); refine blk_far ?_ NB226_233.out _; (with_reducible repeat (first | refine blk_drewN ?_ _ | refine blk_drew ?_ | refine blk_alloc ?_ _)); exact BK226.out⟩, ⟨by (with_reducible repeat (first | refine blk_drewN ?_ _ | refine blk_drew ?_ | refine blk_alloc ?_ _)); refine blk_far ?_ NB227_233.out _; (with_reducible repeat (first | refine blk_drewN ?_ _ | refine blk_drew ?_ | refine blk_alloc ?_ _)); refine blk_far ?_ NB227_233.out _; (with_reducible repeat (first | refine blk_drewN ?_ _ | refine blk_drew ?_ | refine blk_alloc ?_ _)); refine blk_far ?_ NB227_233.out _; (with_reducible repeat (first | refine blk_drewN ?_ _ | refine blk_drew ?_ | refine blk_alloc ?_ _)); refine blk_far ?_ NB227_233.out _; (with_reducible repeat (first | refine blk_drewN ?_ _ | refine blk_drew ?_ | refine blk_alloc ?_ _)); refine blk_far ?_ NB227_233.out _; (with_reducible repeat (first | refine blk_drewN ?_ _ | refine blk_drew ?_ | refine blk_alloc ?_ _)); exact BK227.out⟩, ⟨by (with_reducible repeat (first | refine blk_drewN ?_ _ | refine blk_drew ?_ | refine blk_alloc ?_ _)); refine blk_put (cs := #[.bool t228, .bool t229, .bool t230, .bool false, .bool false]) ?_ 4 _ rfl; (with_reducible repeat (first | refine blk_drewN ?_ _ | refine blk_drew ?_ | refine blk_alloc ?_ _)); refine blk_put (cs := #[.bool t228, .bool t229, .bool t230, .bool false, .bool false]) ?_ 3 _ rfl; (with_reducible repeat (first | refine blk_drewN ?_ _ | refine blk_drew ?_ | refine blk_alloc ?_ _)); refine blk_put (cs := #[.bool t228, .bool t229, .bool false, .bool false, .bool false]) ?_ 2 _ rfl; (with_reducible repeat (first | refine blk_drewN ?_ _ | refine blk_drew ?_ | refine blk_alloc ?_ _)); refine blk_put (cs := #[.bool t228, .bool false, .bool false, .bool false, .bool false]) ?_ 1 _ rfl; (with_reducible repeat (first | refine blk_drewN ?_ _ | refine blk_drew ?_ | refine blk_alloc ?_ _)); refine blk_put (cs := #[.bool false, .bool false, .bool false, .bool false, .bool false]) ?_ 0 _ rfl; (with_reducible repeat (first | refine blk_drewN ?_ _ | refine blk_drew ?_ | refine blk_alloc ?_ _)); exact BK233.out⟩, ⟨by repeat (first | (with_reducible first | exact HB.out | apply below_alloc | apply pw_below_drewN | apply below_drew1 | refine below_set ?_ GE226.out | refine below_set ?_ GE227.out | refine below_set ?_ GE233.out) | exact HB.out)⟩⟩
 case rest =>
  clear HC3
  try clear c1
  try clear c2
  try clear p2
  try clear c6
  try clear p6
  try clear c10
  try clear c11
  try clear c13
  try clear c14
  try clear c15
  try clear c16
  try clear c18
  try clear c19
  try clear c21
  try clear c23
  try clear c24
  try clear hcz12_0
  try clear hcz12_1
  try clear hcz12_2
  try clear hcz12_3
  try clear hcz12_4
  try clear hcz17_0
  try clear hcz17_1
  try clear hcz17_2
  try clear hcz17_3
  try clear hcz17_4
  try clear hcz20_0
  try clear hcz20_1
  try clear hcz20_2
  try clear hcz20_3
  try clear hcz20_4
  try clear hcz22_0
  try clear hcz22_1
  try clear hcz22_2
  try clear hcz22_3
  try clear hcz22_4
  try clear hcz25_0
  try clear hcz25_1
  try clear hcz25_2
  try clear hcz25_3
  try clear hcz25_4
  try clear hcz7_0
  try clear hcz7_1
  try clear hcz7_2
  try clear hcz7_3
  try clear hcz7_4
  try clear hfz12_0
  try clear hfz12_1
  try clear hfz12_2
  try clear hfz12_3
  try clear hfz12_4
  try clear hfz17_0
  try clear hfz17_1
  try clear hfz17_2
  try clear hfz17_3
  try clear hfz17_4
  try clear hfz20_0
  try clear hfz20_1
  try clear hfz20_2
  try clear hfz20_3
  try clear hfz20_4
  try clear hfz22_0
  try clear hfz22_1
  try clear hfz22_2
  try clear hfz22_3
  try clear hfz22_4
  try clear hfz25_0
  try clear hfz25_1
  try clear hfz25_2
  try clear hfz25_3
  try clear hfz25_4
  try clear hfz7_0
  try clear hfz7_1
  try clear hfz7_2
  try clear hfz7_3
  try clear hfz7_4
  obtain ⟨kq, x40_2, rfl, HA, HJ2, BK226, BK227, BK233, HB⟩ := hcut
  cases kq with
  | zero => exact absurd HA.out (by simp [pleatref02_Decode.j0])
  | succ kj2 =>
   have H := HA.out
   clear HA
   simp only [pleatref02_Decode.j0] at H
   by_cases c26 : x40_2 = true
   ·subst c26
    have H1 : ((pleatref02_Encode.f kj2 (IntKind.i8.wrap (a0 / 134217728)) (IntKind.i8.wrap (Go.bits .and .u32 (a0 / 8388608) 15)) (IntKind.i8.wrap (Go.bits .and .u32 (a0 / 524288) 15)) (IntKind.i8.wrap (Go.bits .and .u32 (a0 / 32768) 15)) (wrap64 ((wrap64 (Go.bits .and .u32 a0 32767)) - 32768))).bind fun bt234 => (if bt234.2 = 0 then (if bt234.1 = a0 then (some ((IntKind.i8.wrap (a0 / 134217728)), (IntKind.i8.wrap (Go.bits .and .u32 (a0 / 8388608) 15)), (IntKind.i8.wrap (Go.bits .and .u32 (a0 / 524288) 15)), (IntKind.i8.wrap (Go.bits .and .u32 (a0 / 32768) 15)), wrap64 ((wrap64 (Go.bits .and .u32 a0 32767)) - 32768))) else (some ((-1), 0, 0, 0, wrap64 (a0)))) else (some ((-1), 0, 0, 0, wrap64 (a0))))) = some (r1, r2, r3, r4, r5) := by rw [if_pos rfl] at H; exact H
    clear H
    have H := H1
    clear H1
    replace H := Option.bind_eq_some_iff.mp H
    obtain ⟨⟨t234, t235⟩, A270, H⟩ := H
    replace H : (if t235 = 0 then (if t234 = a0 then (some ((IntKind.i8.wrap (a0 / 134217728)), (IntKind.i8.wrap (Go.bits .and .u32 (a0 / 8388608) 15)), (IntKind.i8.wrap (Go.bits .and .u32 (a0 / 524288) 15)), (IntKind.i8.wrap (Go.bits .and .u32 (a0 / 32768) 15)), wrap64 ((wrap64 (Go.bits .and .u32 a0 32767)) - 32768))) else (some ((-1), 0, 0, 0, wrap64 (a0)))) else (some ((-1), 0, 0, 0, wrap64 (a0)))) = some (r1, r2, r3, r4, r5) := H
    have A27 := Aside0.mk A270
    clear A270
    by_cases c28 : t235 = 0
    ·rw [if_pos c28] at H
     have c28b0 : (t235 == 0) = true := beq_iff_eq.mpr c28
     have c28b1 : (t235 != 0) = false := bne_eq_false_iff_eq.mpr c28
     clear c28
     by_cases c29 : t234 = a0
     ·rw [if_pos c29] at H
      have c29b0 : (t234 == a0) = true := beq_iff_eq.mpr c29
      have c29b1 : (t234 != a0) = false := bne_eq_false_iff_eq.mpr c29
      clear c29
      simp only [Option.some.injEq, Prod.mk.injEq] at H
      obtain ⟨rfl, rfl, rfl, rfl, rfl⟩ := H
      have hnb30 := NB227_226.out
      have hnc30 := NB226_227.out
      have hnb31 := NB227_233.out
      have hnc31 := NB233_227.out
      have hcz32_0 : wc.cell? ⟨gb227, 0, none⟩ = some (.int .i8 (IntKind.i8.wrap (a0 / 134217728))) := (blk_cell BK227.out 0).trans rfl
      have hcz32_1 : wc.cell? ⟨gb227, 1, none⟩ = some (.int .i8 (IntKind.i8.wrap (Go.bits .and .u32 (a0 / 8388608) 15))) := (blk_cell BK227.out 1).trans rfl
      have hcz32_2 : wc.cell? ⟨gb227, 2, none⟩ = some (.int .i8 (IntKind.i8.wrap (Go.bits .and .u32 (a0 / 524288) 15))) := (blk_cell BK227.out 2).trans rfl
      have hcz32_3 : wc.cell? ⟨gb227, 3, none⟩ = some (.int .i8 (IntKind.i8.wrap (Go.bits .and .u32 (a0 / 32768) 15))) := (blk_cell BK227.out 3).trans rfl
      have hcz32_4 : wc.cell? ⟨gb227, 4, none⟩ = some (.int .i64 (wrap64 (Go.bits .and .u32 a0 32767))) := (blk_cell BK227.out 4).trans rfl
      have hfz32_0 := blk_frozen BK227.out 0
      have hfz32_1 := blk_frozen BK227.out 1
      have hfz32_2 := blk_frozen BK227.out 2
      have hfz32_3 := blk_frozen BK227.out 3
      have hfz32_4 := blk_frozen BK227.out 4
      go_wp2_with (first | ((with_reducible refine gate_callee (f := 25) rfl ?_); refine goesL_ (some 47) rfl rfl Try.func25 (by kernel_rfl) rfl #[.agg #[.int .i8 (IntKind.i8.wrap (a0 / 134217728)), .int .i8 (IntKind.i8.wrap (Go.bits .and .u32 (a0 / 8388608) 15)), .int .i8 (IntKind.i8.wrap (Go.bits .and .u32 (a0 / 524288) 15)), .int .i8 (IntKind.i8.wrap (Go.bits .and .u32 (a0 / 32768) 15)), .int .i64 (wrap64 ((wrap64 (Go.bits .and .u32 a0 32767)) - 32768))]] rfl (by (try simp only [List.map_toArray, List.map_cons, List.map_nil]); first | done | rfl | (simp only [List.length_drop, List.length_take]; rfl)) ?_; (with_reducible refine (pleatref02_Encode.calls kj2 (IntKind.i8.wrap (a0 / 134217728)) (IntKind.i8.wrap (Go.bits .and .u32 (a0 / 8388608) 15)) (IntKind.i8.wrap (Go.bits .and .u32 (a0 / 524288) 15)) (IntKind.i8.wrap (Go.bits .and .u32 (a0 / 32768) 15)) (wrap64 ((wrap64 (Go.bits .and .u32 a0 32767)) - 32768)) t234 t235 _ A27.out).mono ?_); rintro e w33 ⟨rfl, hb⟩; refine ⟨_, rfl, ?_⟩; have n0_ := Aside0.mk (blk_below (g := gb226) (o := .cells #[.int .i8 0, .int .i8 0, .int .i8 0, .int .i8 0, .int .i64 0] 40 (0, 0)) (by (with_reducible repeat (first | refine blk_drewN ?_ _ | refine blk_drew ?_ | refine blk_alloc ?_ _)); refine blk_far ?_ NB226_227.out _; (with_reducible repeat (first | refine blk_drewN ?_ _ | refine blk_drew ?_ | refine blk_alloc ?_ _)); exact BK226.out) hb); have n1_ := Aside0.mk (blk_below (g := gb227) (o := .cells #[.int .i8 (IntKind.i8.wrap (a0 / 134217728)), .int .i8 (IntKind.i8.wrap (Go.bits .and .u32 (a0 / 8388608) 15)), .int .i8 (IntKind.i8.wrap (Go.bits .and .u32 (a0 / 524288) 15)), .int .i8 (IntKind.i8.wrap (Go.bits .and .u32 (a0 / 32768) 15)), .int .i64 (wrap64 ((wrap64 (Go.bits .and .u32 a0 32767)) - 32768))] 40 (0, 0)) (by (with_reducible repeat (first | refine blk_drewN ?_ _ | refine blk_drew ?_ | refine blk_alloc ?_ _)); refine blk_put (cs := #[.int .i8 (IntKind.i8.wrap (a0 / 134217728)), .int .i8 (IntKind.i8.wrap (Go.bits .and .u32 (a0 / 8388608) 15)), .int .i8 (IntKind.i8.wrap (Go.bits .and .u32 (a0 / 524288) 15)), .int .i8 (IntKind.i8.wrap (Go.bits .and .u32 (a0 / 32768) 15)), .int .i64 (wrap64 (Go.bits .and .u32 a0 32767))]) ?_ 4 _ rfl; (with_reducible repeat (first | refine blk_drewN ?_ _ | refine blk_drew ?_ | refine blk_alloc ?_ _)); exact BK227.out) hb); have n2_ := Aside0.mk (blk_below (g := gb233) (o := .cells #[.bool t228, .bool t229, .bool t230, .bool t231, .bool t232] 57 (0, 0)) (by (with_reducible repeat (first | refine blk_drewN ?_ _ | refine blk_drew ?_ | refine blk_alloc ?_ _)); refine blk_far ?_ NB233_227.out _; (with_reducible repeat (first | refine blk_drewN ?_ _ | refine blk_drew ?_ | refine blk_alloc ?_ _)); exact BK233.out) hb); have n3_ := Aside0.mk (below_step (by repeat (first | (with_reducible first | exact HB.out | apply below_alloc | apply pw_below_drewN | apply below_drew1 | refine below_set ?_ GE226.out | refine below_set ?_ GE227.out | refine below_set ?_ GE233.out) | exact HB.out)) hb); clear BK226; clear BK227; clear BK233; clear HB; have BK226 := n0_; have BK227 := n1_; have BK233 := n2_; have HB := n3_; clear n0_ n1_ n2_ n3_; (try clear hb); (try clear hb2); (try clear hk); (try clear hi); have hcz34_0 : w33.cell? ⟨gb227, 0, none⟩ = some (.int .i8 (IntKind.i8.wrap (a0 / 134217728))) := (blk_cell BK227.out 0).trans rfl; have hcz34_1 : w33.cell? ⟨gb227, 1, none⟩ = some (.int .i8 (IntKind.i8.wrap (Go.bits .and .u32 (a0 / 8388608) 15))) := (blk_cell BK227.out 1).trans rfl; have hcz34_2 : w33.cell? ⟨gb227, 2, none⟩ = some (.int .i8 (IntKind.i8.wrap (Go.bits .and .u32 (a0 / 524288) 15))) := (blk_cell BK227.out 2).trans rfl; have hcz34_3 : w33.cell? ⟨gb227, 3, none⟩ = some (.int .i8 (IntKind.i8.wrap (Go.bits .and .u32 (a0 / 32768) 15))) := (blk_cell BK227.out 3).trans rfl; have hcz34_4 : w33.cell? ⟨gb227, 4, none⟩ = some (.int .i64 (wrap64 ((wrap64 (Go.bits .and .u32 a0 32767)) - 32768))) := (blk_cell BK227.out 4).trans rfl; have hfz34_0 := blk_frozen BK227.out 0; have hfz34_1 := blk_frozen BK227.out 1; have hfz34_2 := blk_frozen BK227.out 2; have hfz34_3 := blk_frozen BK227.out 3; have hfz34_4 := blk_frozen BK227.out 4; have hnb35 := NB226_233.out; have hnc35 := NB233_226.out; have hcz36_0 : w33.cell? ⟨gb226, 0, none⟩ = some (.int .i8 0) := (blk_cell BK226.out 0).trans rfl; have hcz36_1 : w33.cell? ⟨gb226, 1, none⟩ = some (.int .i8 0) := (blk_cell BK226.out 1).trans rfl; have hcz36_2 : w33.cell? ⟨gb226, 2, none⟩ = some (.int .i8 0) := (blk_cell BK226.out 2).trans rfl; have hcz36_3 : w33.cell? ⟨gb226, 3, none⟩ = some (.int .i8 0) := (blk_cell BK226.out 3).trans rfl; have hcz36_4 : w33.cell? ⟨gb226, 4, none⟩ = some (.int .i64 0) := (blk_cell BK226.out 4).trans rfl; have hfz36_0 := blk_frozen BK226.out 0; have hfz36_1 := blk_frozen BK226.out 1; have hfz36_2 := blk_frozen BK226.out 2; have hfz36_3 := blk_frozen BK226.out 3; have hfz36_4 := blk_frozen BK226.out 4))
      refine bodyPost_ret (results_cell_row rfl _ _ gb226 40 #[.int .i8 (IntKind.i8.wrap (a0 / 134217728)), .int .i8 (IntKind.i8.wrap (Go.bits .and .u32 (a0 / 8388608) 15)), .int .i8 (IntKind.i8.wrap (Go.bits .and .u32 (a0 / 524288) 15)), .int .i8 (IntKind.i8.wrap (Go.bits .and .u32 (a0 / 32768) 15)), .int .i64 (wrap64 ((wrap64 (Go.bits .and .u32 a0 32767)) - 32768))] (0, 0) _ rfl (by (with_reducible repeat (first | refine blk_drewN ?_ _ | refine blk_drew ?_ | refine blk_alloc ?_ _)); refine blk_put (cs := #[.int .i8 (IntKind.i8.wrap (a0 / 134217728)), .int .i8 (IntKind.i8.wrap (Go.bits .and .u32 (a0 / 8388608) 15)), .int .i8 (IntKind.i8.wrap (Go.bits .and .u32 (a0 / 524288) 15)), .int .i8 (IntKind.i8.wrap (Go.bits .and .u32 (a0 / 32768) 15)), .int .i64 0]) ?_ 4 _ rfl; (with_reducible repeat (first | refine blk_drewN ?_ _ | refine blk_drew ?_ | refine blk_alloc ?_ _)); refine blk_put (cs := #[.int .i8 (IntKind.i8.wrap (a0 / 134217728)), .int .i8 (IntKind.i8.wrap (Go.bits .and .u32 (a0 / 8388608) 15)), .int .i8 (IntKind.i8.wrap (Go.bits .and .u32 (a0 / 524288) 15)), .int .i8 0, .int .i64 0]) ?_ 3 _ rfl; (with_reducible repeat (first | refine blk_drewN ?_ _ | refine blk_drew ?_ | refine blk_alloc ?_ _)); refine blk_put (cs := #[.int .i8 (IntKind.i8.wrap (a0 / 134217728)), .int .i8 (IntKind.i8.wrap (Go.bits .and .u32 (a0 / 8388608) 15)), .int .i8 0, .int .i8 0, .int .i64 0]) ?_ 2 _ rfl; (with_reducible repeat (first | refine blk_drewN ?_ _ | refine blk_drew ?_ | refine blk_alloc ?_ _)); refine blk_put (cs := #[.int .i8 (IntKind.i8.wrap (a0 / 134217728)), .int .i8 0, .int .i8 0, .int .i8 0, .int .i64 0]) ?_ 1 _ rfl; (with_reducible repeat (first | refine blk_drewN ?_ _ | refine blk_drew ?_ | refine blk_alloc ?_ _)); refine blk_put (cs := #[.int .i8 0, .int .i8 0, .int .i8 0, .int .i8 0, .int .i64 0]) ?_ 0 _ rfl; (with_reducible repeat (first | refine blk_drewN ?_ _ | refine blk_drew ?_ | refine blk_alloc ?_ _)); exact BK226.out) Try.underlying40 rfl (by kernel_rfl)) rfl ?_
      exact ⟨by first | rfl | (simp [errW_none, errW_some] <;> rfl) | (simp [*, errW_none, errW_some] <;> rfl), by repeat (first | (with_reducible first | exact HB.out | apply below_alloc | apply pw_below_drewN | apply below_drew1 | refine below_set ?_ GE226.out | refine below_set ?_ GE227.out | refine below_set ?_ GE233.out) | exact HB.out)⟩
     ·rw [if_neg c29] at H
      have c29b0 : (t234 == a0) = false := beq_eq_false_iff_ne.mpr c29
      have c29b1 : (t234 != a0) = true := bne_iff_ne.mpr c29
      simp only [Option.some.injEq, Prod.mk.injEq] at H
      obtain ⟨rfl, rfl, rfl, rfl, rfl⟩ := H
      have hnb37 := NB227_226.out
      have hnc37 := NB226_227.out
      have hnb38 := NB227_233.out
      have hnc38 := NB233_227.out
      have hcz39_0 : wc.cell? ⟨gb227, 0, none⟩ = some (.int .i8 (IntKind.i8.wrap (a0 / 134217728))) := (blk_cell BK227.out 0).trans rfl
      have hcz39_1 : wc.cell? ⟨gb227, 1, none⟩ = some (.int .i8 (IntKind.i8.wrap (Go.bits .and .u32 (a0 / 8388608) 15))) := (blk_cell BK227.out 1).trans rfl
      have hcz39_2 : wc.cell? ⟨gb227, 2, none⟩ = some (.int .i8 (IntKind.i8.wrap (Go.bits .and .u32 (a0 / 524288) 15))) := (blk_cell BK227.out 2).trans rfl
      have hcz39_3 : wc.cell? ⟨gb227, 3, none⟩ = some (.int .i8 (IntKind.i8.wrap (Go.bits .and .u32 (a0 / 32768) 15))) := (blk_cell BK227.out 3).trans rfl
      have hcz39_4 : wc.cell? ⟨gb227, 4, none⟩ = some (.int .i64 (wrap64 (Go.bits .and .u32 a0 32767))) := (blk_cell BK227.out 4).trans rfl
      have hfz39_0 := blk_frozen BK227.out 0
      have hfz39_1 := blk_frozen BK227.out 1
      have hfz39_2 := blk_frozen BK227.out 2
      have hfz39_3 := blk_frozen BK227.out 3
      have hfz39_4 := blk_frozen BK227.out 4
      go_wp2_with (first | ((with_reducible refine gate_callee (f := 25) rfl ?_); refine goesL_ (some 47) rfl rfl Try.func25 (by kernel_rfl) rfl #[.agg #[.int .i8 (IntKind.i8.wrap (a0 / 134217728)), .int .i8 (IntKind.i8.wrap (Go.bits .and .u32 (a0 / 8388608) 15)), .int .i8 (IntKind.i8.wrap (Go.bits .and .u32 (a0 / 524288) 15)), .int .i8 (IntKind.i8.wrap (Go.bits .and .u32 (a0 / 32768) 15)), .int .i64 (wrap64 ((wrap64 (Go.bits .and .u32 a0 32767)) - 32768))]] rfl (by (try simp only [List.map_toArray, List.map_cons, List.map_nil]); first | done | rfl | (simp only [List.length_drop, List.length_take]; rfl)) ?_; (with_reducible refine (pleatref02_Encode.calls kj2 (IntKind.i8.wrap (a0 / 134217728)) (IntKind.i8.wrap (Go.bits .and .u32 (a0 / 8388608) 15)) (IntKind.i8.wrap (Go.bits .and .u32 (a0 / 524288) 15)) (IntKind.i8.wrap (Go.bits .and .u32 (a0 / 32768) 15)) (wrap64 ((wrap64 (Go.bits .and .u32 a0 32767)) - 32768)) t234 t235 _ A27.out).mono ?_); rintro e w40 ⟨rfl, hb⟩; refine ⟨_, rfl, ?_⟩; have n0_ := Aside0.mk (blk_below (g := gb226) (o := .cells #[.int .i8 0, .int .i8 0, .int .i8 0, .int .i8 0, .int .i64 0] 40 (0, 0)) (by (with_reducible repeat (first | refine blk_drewN ?_ _ | refine blk_drew ?_ | refine blk_alloc ?_ _)); refine blk_far ?_ NB226_227.out _; (with_reducible repeat (first | refine blk_drewN ?_ _ | refine blk_drew ?_ | refine blk_alloc ?_ _)); exact BK226.out) hb); have n1_ := Aside0.mk (blk_below (g := gb227) (o := .cells #[.int .i8 (IntKind.i8.wrap (a0 / 134217728)), .int .i8 (IntKind.i8.wrap (Go.bits .and .u32 (a0 / 8388608) 15)), .int .i8 (IntKind.i8.wrap (Go.bits .and .u32 (a0 / 524288) 15)), .int .i8 (IntKind.i8.wrap (Go.bits .and .u32 (a0 / 32768) 15)), .int .i64 (wrap64 ((wrap64 (Go.bits .and .u32 a0 32767)) - 32768))] 40 (0, 0)) (by (with_reducible repeat (first | refine blk_drewN ?_ _ | refine blk_drew ?_ | refine blk_alloc ?_ _)); refine blk_put (cs := #[.int .i8 (IntKind.i8.wrap (a0 / 134217728)), .int .i8 (IntKind.i8.wrap (Go.bits .and .u32 (a0 / 8388608) 15)), .int .i8 (IntKind.i8.wrap (Go.bits .and .u32 (a0 / 524288) 15)), .int .i8 (IntKind.i8.wrap (Go.bits .and .u32 (a0 / 32768) 15)), .int .i64 (wrap64 (Go.bits .and .u32 a0 32767))]) ?_ 4 _ rfl; (with_reducible repeat (first | refine blk_drewN ?_ _ | refine blk_drew ?_ | refine blk_alloc ?_ _)); exact BK227.out) hb); have n2_ := Aside0.mk (blk_below (g := gb233) (o := .cells #[.bool t228, .bool t229, .bool t230, .bool t231, .bool t232] 57 (0, 0)) (by (with_reducible repeat (first | refine blk_drewN ?_ _ | refine blk_drew ?_ | refine blk_alloc ?_ _)); refine blk_far ?_ NB233_227.out _; (with_reducible repeat (first | refine blk_drewN ?_ _ | refine blk_drew ?_ | refine blk_alloc ?_ _)); exact BK233.out) hb); have n3_ := Aside0.mk (below_step (by repeat (first | (with_reducible first | exact HB.out | apply below_alloc | apply pw_below_drewN | apply below_drew1 | refine below_set ?_ GE226.out | refine below_set ?_ GE227.out | refine below_set ?_ GE233.out) | exact HB.out)) hb); clear BK226; clear BK227; clear BK233; clear HB; have BK226 := n0_; have BK227 := n1_; have BK233 := n2_; have HB := n3_; clear n0_ n1_ n2_ n3_; (try clear hb); (try clear hb2); (try clear hk); (try clear hi); have hnb41 := NB226_233.out; have hnc41 := NB233_226.out; have hcz42_0 : w40.cell? ⟨gb226, 0, none⟩ = some (.int .i8 0) := (blk_cell BK226.out 0).trans rfl; have hcz42_1 : w40.cell? ⟨gb226, 1, none⟩ = some (.int .i8 0) := (blk_cell BK226.out 1).trans rfl; have hcz42_2 : w40.cell? ⟨gb226, 2, none⟩ = some (.int .i8 0) := (blk_cell BK226.out 2).trans rfl; have hcz42_3 : w40.cell? ⟨gb226, 3, none⟩ = some (.int .i8 0) := (blk_cell BK226.out 3).trans rfl; have hcz42_4 : w40.cell? ⟨gb226, 4, none⟩ = some (.int .i64 0) := (blk_cell BK226.out 4).trans rfl; have hfz42_0 := blk_frozen BK226.out 0; have hfz42_1 := blk_frozen BK226.out 1; have hfz42_2 := blk_frozen BK226.out 2; have hfz42_3 := blk_frozen BK226.out 3; have hfz42_4 := blk_frozen BK226.out 4))
      refine bodyPost_ret (results_cell_row rfl _ _ gb226 40 #[.int .i8 (-1), .int .i8 0, .int .i8 0, .int .i8 0, .int .i64 (wrap64 (a0))] (0, 0) _ rfl (by (with_reducible repeat (first | refine blk_drewN ?_ _ | refine blk_drew ?_ | refine blk_alloc ?_ _)); refine blk_put (cs := #[.int .i8 (-1), .int .i8 0, .int .i8 0, .int .i8 0, .int .i64 0]) ?_ 4 _ rfl; (with_reducible repeat (first | refine blk_drewN ?_ _ | refine blk_drew ?_ | refine blk_alloc ?_ _)); refine blk_put (cs := #[.int .i8 (-1), .int .i8 0, .int .i8 0, .int .i8 0, .int .i64 0]) ?_ 3 _ rfl; (with_reducible repeat (first | refine blk_drewN ?_ _ | refine blk_drew ?_ | refine blk_alloc ?_ _)); refine blk_put (cs := #[.int .i8 (-1), .int .i8 0, .int .i8 0, .int .i8 0, .int .i64 0]) ?_ 2 _ rfl; (with_reducible repeat (first | refine blk_drewN ?_ _ | refine blk_drew ?_ | refine blk_alloc ?_ _)); refine blk_put (cs := #[.int .i8 (-1), .int .i8 0, .int .i8 0, .int .i8 0, .int .i64 0]) ?_ 1 _ rfl; (with_reducible repeat (first | refine blk_drewN ?_ _ | refine blk_drew ?_ | refine blk_alloc ?_ _)); refine blk_put (cs := #[.int .i8 0, .int .i8 0, .int .i8 0, .int .i8 0, .int .i64 0]) ?_ 0 _ rfl; (with_reducible repeat (first | refine blk_drewN ?_ _ | refine blk_drew ?_ | refine blk_alloc ?_ _)); exact BK226.out) Try.underlying40 rfl (by kernel_rfl)) rfl ?_
      exact ⟨by first | rfl | (simp [errW_none, errW_some] <;> rfl) | (simp [*, errW_none, errW_some] <;> rfl), by repeat (first | (with_reducible first | exact HB.out | apply below_alloc | apply pw_below_drewN | apply below_drew1 | refine below_set ?_ GE226.out | refine below_set ?_ GE227.out | refine below_set ?_ GE233.out) | exact HB.out)⟩
    ·rw [if_neg c28] at H
     have c28b0 : (t235 == 0) = false := beq_eq_false_iff_ne.mpr c28
     have c28b1 : (t235 != 0) = true := bne_iff_ne.mpr c28
     simp only [Option.some.injEq, Prod.mk.injEq] at H
     obtain ⟨rfl, rfl, rfl, rfl, rfl⟩ := H
     have hnb43 := NB227_226.out
     have hnc43 := NB226_227.out
     have hnb44 := NB227_233.out
     have hnc44 := NB233_227.out
     have hcz45_0 : wc.cell? ⟨gb227, 0, none⟩ = some (.int .i8 (IntKind.i8.wrap (a0 / 134217728))) := (blk_cell BK227.out 0).trans rfl
     have hcz45_1 : wc.cell? ⟨gb227, 1, none⟩ = some (.int .i8 (IntKind.i8.wrap (Go.bits .and .u32 (a0 / 8388608) 15))) := (blk_cell BK227.out 1).trans rfl
     have hcz45_2 : wc.cell? ⟨gb227, 2, none⟩ = some (.int .i8 (IntKind.i8.wrap (Go.bits .and .u32 (a0 / 524288) 15))) := (blk_cell BK227.out 2).trans rfl
     have hcz45_3 : wc.cell? ⟨gb227, 3, none⟩ = some (.int .i8 (IntKind.i8.wrap (Go.bits .and .u32 (a0 / 32768) 15))) := (blk_cell BK227.out 3).trans rfl
     have hcz45_4 : wc.cell? ⟨gb227, 4, none⟩ = some (.int .i64 (wrap64 (Go.bits .and .u32 a0 32767))) := (blk_cell BK227.out 4).trans rfl
     have hfz45_0 := blk_frozen BK227.out 0
     have hfz45_1 := blk_frozen BK227.out 1
     have hfz45_2 := blk_frozen BK227.out 2
     have hfz45_3 := blk_frozen BK227.out 3
     have hfz45_4 := blk_frozen BK227.out 4
     go_wp2_with (first | ((with_reducible refine gate_callee (f := 25) rfl ?_); refine goesL_ (some 47) rfl rfl Try.func25 (by kernel_rfl) rfl #[.agg #[.int .i8 (IntKind.i8.wrap (a0 / 134217728)), .int .i8 (IntKind.i8.wrap (Go.bits .and .u32 (a0 / 8388608) 15)), .int .i8 (IntKind.i8.wrap (Go.bits .and .u32 (a0 / 524288) 15)), .int .i8 (IntKind.i8.wrap (Go.bits .and .u32 (a0 / 32768) 15)), .int .i64 (wrap64 ((wrap64 (Go.bits .and .u32 a0 32767)) - 32768))]] rfl (by (try simp only [List.map_toArray, List.map_cons, List.map_nil]); first | done | rfl | (simp only [List.length_drop, List.length_take]; rfl)) ?_; (with_reducible refine (pleatref02_Encode.calls kj2 (IntKind.i8.wrap (a0 / 134217728)) (IntKind.i8.wrap (Go.bits .and .u32 (a0 / 8388608) 15)) (IntKind.i8.wrap (Go.bits .and .u32 (a0 / 524288) 15)) (IntKind.i8.wrap (Go.bits .and .u32 (a0 / 32768) 15)) (wrap64 ((wrap64 (Go.bits .and .u32 a0 32767)) - 32768)) t234 t235 _ A27.out).mono ?_); rintro e w46 ⟨rfl, hb⟩; refine ⟨_, rfl, ?_⟩; have n0_ := Aside0.mk (blk_below (g := gb226) (o := .cells #[.int .i8 0, .int .i8 0, .int .i8 0, .int .i8 0, .int .i64 0] 40 (0, 0)) (by (with_reducible repeat (first | refine blk_drewN ?_ _ | refine blk_drew ?_ | refine blk_alloc ?_ _)); refine blk_far ?_ NB226_227.out _; (with_reducible repeat (first | refine blk_drewN ?_ _ | refine blk_drew ?_ | refine blk_alloc ?_ _)); exact BK226.out) hb); have n1_ := Aside0.mk (blk_below (g := gb227) (o := .cells #[.int .i8 (IntKind.i8.wrap (a0 / 134217728)), .int .i8 (IntKind.i8.wrap (Go.bits .and .u32 (a0 / 8388608) 15)), .int .i8 (IntKind.i8.wrap (Go.bits .and .u32 (a0 / 524288) 15)), .int .i8 (IntKind.i8.wrap (Go.bits .and .u32 (a0 / 32768) 15)), .int .i64 (wrap64 ((wrap64 (Go.bits .and .u32 a0 32767)) - 32768))] 40 (0, 0)) (by (with_reducible repeat (first | refine blk_drewN ?_ _ | refine blk_drew ?_ | refine blk_alloc ?_ _)); refine blk_put (cs := #[.int .i8 (IntKind.i8.wrap (a0 / 134217728)), .int .i8 (IntKind.i8.wrap (Go.bits .and .u32 (a0 / 8388608) 15)), .int .i8 (IntKind.i8.wrap (Go.bits .and .u32 (a0 / 524288) 15)), .int .i8 (IntKind.i8.wrap (Go.bits .and .u32 (a0 / 32768) 15)), .int .i64 (wrap64 (Go.bits .and .u32 a0 32767))]) ?_ 4 _ rfl; (with_reducible repeat (first | refine blk_drewN ?_ _ | refine blk_drew ?_ | refine blk_alloc ?_ _)); exact BK227.out) hb); have n2_ := Aside0.mk (blk_below (g := gb233) (o := .cells #[.bool t228, .bool t229, .bool t230, .bool t231, .bool t232] 57 (0, 0)) (by (with_reducible repeat (first | refine blk_drewN ?_ _ | refine blk_drew ?_ | refine blk_alloc ?_ _)); refine blk_far ?_ NB233_227.out _; (with_reducible repeat (first | refine blk_drewN ?_ _ | refine blk_drew ?_ | refine blk_alloc ?_ _)); exact BK233.out) hb); have n3_ := Aside0.mk (below_step (by repeat (first | (with_reducible first | exact HB.out | apply below_alloc | apply pw_below_drewN | apply below_drew1 | refine below_set ?_ GE226.out | refine below_set ?_ GE227.out | refine below_set ?_ GE233.out) | exact HB.out)) hb); clear BK226; clear BK227; clear BK233; clear HB; have BK226 := n0_; have BK227 := n1_; have BK233 := n2_; have HB := n3_; clear n0_ n1_ n2_ n3_; (try clear hb); (try clear hb2); (try clear hk); (try clear hi); have hnb47 := NB226_233.out; have hnc47 := NB233_226.out; have hcz48_0 : w46.cell? ⟨gb226, 0, none⟩ = some (.int .i8 0) := (blk_cell BK226.out 0).trans rfl; have hcz48_1 : w46.cell? ⟨gb226, 1, none⟩ = some (.int .i8 0) := (blk_cell BK226.out 1).trans rfl; have hcz48_2 : w46.cell? ⟨gb226, 2, none⟩ = some (.int .i8 0) := (blk_cell BK226.out 2).trans rfl; have hcz48_3 : w46.cell? ⟨gb226, 3, none⟩ = some (.int .i8 0) := (blk_cell BK226.out 3).trans rfl; have hcz48_4 : w46.cell? ⟨gb226, 4, none⟩ = some (.int .i64 0) := (blk_cell BK226.out 4).trans rfl; have hfz48_0 := blk_frozen BK226.out 0; have hfz48_1 := blk_frozen BK226.out 1; have hfz48_2 := blk_frozen BK226.out 2; have hfz48_3 := blk_frozen BK226.out 3; have hfz48_4 := blk_frozen BK226.out 4))
     refine bodyPost_ret (results_cell_row rfl _ _ gb226 40 #[.int .i8 (-1), .int .i8 0, .int .i8 0, .int .i8 0, .int .i64 (wrap64 (a0))] (0, 0) _ rfl (by (with_reducible repeat (first | refine blk_drewN ?_ _ | refine blk_drew ?_ | refine blk_alloc ?_ _)); refine blk_put (cs := #[.int .i8 (-1), .int .i8 0, .int .i8 0, .int .i8 0, .int .i64 0]) ?_ 4 _ rfl; (with_reducible repeat (first | refine blk_drewN ?_ _ | refine blk_drew ?_ | refine blk_alloc ?_ _)); refine blk_put (cs := #[.int .i8 (-1), .int .i8 0, .int .i8 0, .int .i8 0, .int .i64 0]) ?_ 3 _ rfl; (with_reducible repeat (first | refine blk_drewN ?_ _ | refine blk_drew ?_ | refine blk_alloc ?_ _)); refine blk_put (cs := #[.int .i8 (-1), .int .i8 0, .int .i8 0, .int .i8 0, .int .i64 0]) ?_ 2 _ rfl; (with_reducible repeat (first | refine blk_drewN ?_ _ | refine blk_drew ?_ | refine blk_alloc ?_ _)); refine blk_put (cs := #[.int .i8 (-1), .int .i8 0, .int .i8 0, .int .i8 0, .int .i64 0]) ?_ 1 _ rfl; (with_reducible repeat (first | refine blk_drewN ?_ _ | refine blk_drew ?_ | refine blk_alloc ?_ _)); refine blk_put (cs := #[.int .i8 0, .int .i8 0, .int .i8 0, .int .i8 0, .int .i64 0]) ?_ 0 _ rfl; (with_reducible repeat (first | refine blk_drewN ?_ _ | refine blk_drew ?_ | refine blk_alloc ?_ _)); exact BK226.out) Try.underlying40 rfl (by kernel_rfl)) rfl ?_
     exact ⟨by first | rfl | (simp [errW_none, errW_some] <;> rfl) | (simp [*, errW_none, errW_some] <;> rfl), by repeat (first | (with_reducible first | exact HB.out | apply below_alloc | apply pw_below_drewN | apply below_drew1 | refine below_set ?_ GE226.out | refine below_set ?_ GE227.out | refine below_set ?_ GE233.out) | exact HB.out)⟩
   ·replace c26 := Bool.eq_false_iff.mpr c26
    subst c26
    have H1 : ((pleatref02_Encode.f kj2 (IntKind.i8.wrap (a0 / 134217728)) (IntKind.i8.wrap (Go.bits .and .u32 (a0 / 8388608) 15)) (IntKind.i8.wrap (Go.bits .and .u32 (a0 / 524288) 15)) (IntKind.i8.wrap (Go.bits .and .u32 (a0 / 32768) 15)) (wrap64 (Go.bits .and .u32 a0 32767))).bind fun bt236 => (if bt236.2 = 0 then (if bt236.1 = a0 then (some ((IntKind.i8.wrap (a0 / 134217728)), (IntKind.i8.wrap (Go.bits .and .u32 (a0 / 8388608) 15)), (IntKind.i8.wrap (Go.bits .and .u32 (a0 / 524288) 15)), (IntKind.i8.wrap (Go.bits .and .u32 (a0 / 32768) 15)), (wrap64 (Go.bits .and .u32 a0 32767)))) else (some ((-1), 0, 0, 0, wrap64 (a0)))) else (some ((-1), 0, 0, 0, wrap64 (a0))))) = some (r1, r2, r3, r4, r5) := by rw [if_neg (show ¬ (false = true) by decide)] at H; exact H
    clear H
    have H := H1
    clear H1
    replace H := Option.bind_eq_some_iff.mp H
    obtain ⟨⟨t236, t237⟩, A490, H⟩ := H
    replace H : (if t237 = 0 then (if t236 = a0 then (some ((IntKind.i8.wrap (a0 / 134217728)), (IntKind.i8.wrap (Go.bits .and .u32 (a0 / 8388608) 15)), (IntKind.i8.wrap (Go.bits .and .u32 (a0 / 524288) 15)), (IntKind.i8.wrap (Go.bits .and .u32 (a0 / 32768) 15)), (wrap64 (Go.bits .and .u32 a0 32767)))) else (some ((-1), 0, 0, 0, wrap64 (a0)))) else (some ((-1), 0, 0, 0, wrap64 (a0)))) = some (r1, r2, r3, r4, r5) := H
    have A49 := Aside0.mk A490
    clear A490
    by_cases c50 : t237 = 0
    ·rw [if_pos c50] at H
     have c50b0 : (t237 == 0) = true := beq_iff_eq.mpr c50
     have c50b1 : (t237 != 0) = false := bne_eq_false_iff_eq.mpr c50
     clear c50
     by_cases c51 : t236 = a0
     ·rw [if_pos c51] at H
      have c51b0 : (t236 == a0) = true := beq_iff_eq.mpr c51
      have c51b1 : (t236 != a0) = false := bne_eq_false_iff_eq.mpr c51
      clear c51
      simp only [Option.some.injEq, Prod.mk.injEq] at H
      obtain ⟨rfl, rfl, rfl, rfl, rfl⟩ := H
      have hnb52 := NB227_226.out
      have hnc52 := NB226_227.out
      have hnb53 := NB227_233.out
      have hnc53 := NB233_227.out
      have hcz54_0 : wc.cell? ⟨gb227, 0, none⟩ = some (.int .i8 (IntKind.i8.wrap (a0 / 134217728))) := (blk_cell BK227.out 0).trans rfl
      have hcz54_1 : wc.cell? ⟨gb227, 1, none⟩ = some (.int .i8 (IntKind.i8.wrap (Go.bits .and .u32 (a0 / 8388608) 15))) := (blk_cell BK227.out 1).trans rfl
      have hcz54_2 : wc.cell? ⟨gb227, 2, none⟩ = some (.int .i8 (IntKind.i8.wrap (Go.bits .and .u32 (a0 / 524288) 15))) := (blk_cell BK227.out 2).trans rfl
      have hcz54_3 : wc.cell? ⟨gb227, 3, none⟩ = some (.int .i8 (IntKind.i8.wrap (Go.bits .and .u32 (a0 / 32768) 15))) := (blk_cell BK227.out 3).trans rfl
      have hcz54_4 : wc.cell? ⟨gb227, 4, none⟩ = some (.int .i64 (wrap64 (Go.bits .and .u32 a0 32767))) := (blk_cell BK227.out 4).trans rfl
      have hfz54_0 := blk_frozen BK227.out 0
      have hfz54_1 := blk_frozen BK227.out 1
      have hfz54_2 := blk_frozen BK227.out 2
      have hfz54_3 := blk_frozen BK227.out 3
      have hfz54_4 := blk_frozen BK227.out 4
      go_wp2_with (first | ((with_reducible refine gate_callee (f := 25) rfl ?_); refine goesL_ (some 47) rfl rfl Try.func25 (by kernel_rfl) rfl #[.agg #[.int .i8 (IntKind.i8.wrap (a0 / 134217728)), .int .i8 (IntKind.i8.wrap (Go.bits .and .u32 (a0 / 8388608) 15)), .int .i8 (IntKind.i8.wrap (Go.bits .and .u32 (a0 / 524288) 15)), .int .i8 (IntKind.i8.wrap (Go.bits .and .u32 (a0 / 32768) 15)), .int .i64 (wrap64 (Go.bits .and .u32 a0 32767))]] rfl (by (try simp only [List.map_toArray, List.map_cons, List.map_nil]); first | done | rfl | (simp only [List.length_drop, List.length_take]; rfl)) ?_; (with_reducible refine (pleatref02_Encode.calls kj2 (IntKind.i8.wrap (a0 / 134217728)) (IntKind.i8.wrap (Go.bits .and .u32 (a0 / 8388608) 15)) (IntKind.i8.wrap (Go.bits .and .u32 (a0 / 524288) 15)) (IntKind.i8.wrap (Go.bits .and .u32 (a0 / 32768) 15)) (wrap64 (Go.bits .and .u32 a0 32767)) t236 t237 _ A49.out).mono ?_); rintro e w55 ⟨rfl, hb⟩; refine ⟨_, rfl, ?_⟩; have n0_ := Aside0.mk (blk_below (g := gb226) (o := .cells #[.int .i8 0, .int .i8 0, .int .i8 0, .int .i8 0, .int .i64 0] 40 (0, 0)) (by (with_reducible repeat (first | refine blk_drewN ?_ _ | refine blk_drew ?_ | refine blk_alloc ?_ _)); exact BK226.out) hb); have n1_ := Aside0.mk (blk_below (g := gb227) (o := .cells #[.int .i8 (IntKind.i8.wrap (a0 / 134217728)), .int .i8 (IntKind.i8.wrap (Go.bits .and .u32 (a0 / 8388608) 15)), .int .i8 (IntKind.i8.wrap (Go.bits .and .u32 (a0 / 524288) 15)), .int .i8 (IntKind.i8.wrap (Go.bits .and .u32 (a0 / 32768) 15)), .int .i64 (wrap64 (Go.bits .and .u32 a0 32767))] 40 (0, 0)) (by (with_reducible repeat (first | refine blk_drewN ?_ _ | refine blk_drew ?_ | refine blk_alloc ?_ _)); exact BK227.out) hb); have n2_ := Aside0.mk (blk_below (g := gb233) (o := .cells #[.bool t228, .bool t229, .bool t230, .bool t231, .bool t232] 57 (0, 0)) (by (with_reducible repeat (first | refine blk_drewN ?_ _ | refine blk_drew ?_ | refine blk_alloc ?_ _)); exact BK233.out) hb); have n3_ := Aside0.mk (below_step (by repeat (first | (with_reducible first | exact HB.out | apply below_alloc | apply pw_below_drewN | apply below_drew1 | refine below_set ?_ GE226.out | refine below_set ?_ GE227.out | refine below_set ?_ GE233.out) | exact HB.out)) hb); clear BK226; clear BK227; clear BK233; clear HB; have BK226 := n0_; have BK227 := n1_; have BK233 := n2_; have HB := n3_; clear n0_ n1_ n2_ n3_; (try clear hb); (try clear hb2); (try clear hk); (try clear hi); have hcz56_0 : w55.cell? ⟨gb227, 0, none⟩ = some (.int .i8 (IntKind.i8.wrap (a0 / 134217728))) := (blk_cell BK227.out 0).trans rfl; have hcz56_1 : w55.cell? ⟨gb227, 1, none⟩ = some (.int .i8 (IntKind.i8.wrap (Go.bits .and .u32 (a0 / 8388608) 15))) := (blk_cell BK227.out 1).trans rfl; have hcz56_2 : w55.cell? ⟨gb227, 2, none⟩ = some (.int .i8 (IntKind.i8.wrap (Go.bits .and .u32 (a0 / 524288) 15))) := (blk_cell BK227.out 2).trans rfl; have hcz56_3 : w55.cell? ⟨gb227, 3, none⟩ = some (.int .i8 (IntKind.i8.wrap (Go.bits .and .u32 (a0 / 32768) 15))) := (blk_cell BK227.out 3).trans rfl; have hcz56_4 : w55.cell? ⟨gb227, 4, none⟩ = some (.int .i64 (wrap64 (Go.bits .and .u32 a0 32767))) := (blk_cell BK227.out 4).trans rfl; have hfz56_0 := blk_frozen BK227.out 0; have hfz56_1 := blk_frozen BK227.out 1; have hfz56_2 := blk_frozen BK227.out 2; have hfz56_3 := blk_frozen BK227.out 3; have hfz56_4 := blk_frozen BK227.out 4; have hnb57 := NB226_233.out; have hnc57 := NB233_226.out; have hcz58_0 : w55.cell? ⟨gb226, 0, none⟩ = some (.int .i8 0) := (blk_cell BK226.out 0).trans rfl; have hcz58_1 : w55.cell? ⟨gb226, 1, none⟩ = some (.int .i8 0) := (blk_cell BK226.out 1).trans rfl; have hcz58_2 : w55.cell? ⟨gb226, 2, none⟩ = some (.int .i8 0) := (blk_cell BK226.out 2).trans rfl; have hcz58_3 : w55.cell? ⟨gb226, 3, none⟩ = some (.int .i8 0) := (blk_cell BK226.out 3).trans rfl; have hcz58_4 : w55.cell? ⟨gb226, 4, none⟩ = some (.int .i64 0) := (blk_cell BK226.out 4).trans rfl; have hfz58_0 := blk_frozen BK226.out 0; have hfz58_1 := blk_frozen BK226.out 1; have hfz58_2 := blk_frozen BK226.out 2; have hfz58_3 := blk_frozen BK226.out 3; have hfz58_4 := blk_frozen BK226.out 4))
      refine bodyPost_ret (results_cell_row rfl _ _ gb226 40 #[.int .i8 (IntKind.i8.wrap (a0 / 134217728)), .int .i8 (IntKind.i8.wrap (Go.bits .and .u32 (a0 / 8388608) 15)), .int .i8 (IntKind.i8.wrap (Go.bits .and .u32 (a0 / 524288) 15)), .int .i8 (IntKind.i8.wrap (Go.bits .and .u32 (a0 / 32768) 15)), .int .i64 (wrap64 (Go.bits .and .u32 a0 32767))] (0, 0) _ rfl (by (with_reducible repeat (first | refine blk_drewN ?_ _ | refine blk_drew ?_ | refine blk_alloc ?_ _)); refine blk_put (cs := #[.int .i8 (IntKind.i8.wrap (a0 / 134217728)), .int .i8 (IntKind.i8.wrap (Go.bits .and .u32 (a0 / 8388608) 15)), .int .i8 (IntKind.i8.wrap (Go.bits .and .u32 (a0 / 524288) 15)), .int .i8 (IntKind.i8.wrap (Go.bits .and .u32 (a0 / 32768) 15)), .int .i64 0]) ?_ 4 _ rfl; (with_reducible repeat (first | refine blk_drewN ?_ _ | refine blk_drew ?_ | refine blk_alloc ?_ _)); refine blk_put (cs := #[.int .i8 (IntKind.i8.wrap (a0 / 134217728)), .int .i8 (IntKind.i8.wrap (Go.bits .and .u32 (a0 / 8388608) 15)), .int .i8 (IntKind.i8.wrap (Go.bits .and .u32 (a0 / 524288) 15)), .int .i8 0, .int .i64 0]) ?_ 3 _ rfl; (with_reducible repeat (first | refine blk_drewN ?_ _ | refine blk_drew ?_ | refine blk_alloc ?_ _)); refine blk_put (cs := #[.int .i8 (IntKind.i8.wrap (a0 / 134217728)), .int .i8 (IntKind.i8.wrap (Go.bits .and .u32 (a0 / 8388608) 15)), .int .i8 0, .int .i8 0, .int .i64 0]) ?_ 2 _ rfl; (with_reducible repeat (first | refine blk_drewN ?_ _ | refine blk_drew ?_ | refine blk_alloc ?_ _)); refine blk_put (cs := #[.int .i8 (IntKind.i8.wrap (a0 / 134217728)), .int .i8 0, .int .i8 0, .int .i8 0, .int .i64 0]) ?_ 1 _ rfl; (with_reducible repeat (first | refine blk_drewN ?_ _ | refine blk_drew ?_ | refine blk_alloc ?_ _)); refine blk_put (cs := #[.int .i8 0, .int .i8 0, .int .i8 0, .int .i8 0, .int .i64 0]) ?_ 0 _ rfl; (with_reducible repeat (first | refine blk_drewN ?_ _ | refine blk_drew ?_ | refine blk_alloc ?_ _)); exact BK226.out) Try.underlying40 rfl (by kernel_rfl)) rfl ?_
      exact ⟨by first | rfl | (simp [errW_none, errW_some] <;> rfl) | (simp [*, errW_none, errW_some] <;> rfl), by repeat (first | (with_reducible first | exact HB.out | apply below_alloc | apply pw_below_drewN | apply below_drew1 | refine below_set ?_ GE226.out | refine below_set ?_ GE227.out | refine below_set ?_ GE233.out) | exact HB.out)⟩
     ·rw [if_neg c51] at H
      have c51b0 : (t236 == a0) = false := beq_eq_false_iff_ne.mpr c51
      have c51b1 : (t236 != a0) = true := bne_iff_ne.mpr c51
      simp only [Option.some.injEq, Prod.mk.injEq] at H
      obtain ⟨rfl, rfl, rfl, rfl, rfl⟩ := H
      have hnb59 := NB227_226.out
      have hnc59 := NB226_227.out
      have hnb60 := NB227_233.out
      have hnc60 := NB233_227.out
      have hcz61_0 : wc.cell? ⟨gb227, 0, none⟩ = some (.int .i8 (IntKind.i8.wrap (a0 / 134217728))) := (blk_cell BK227.out 0).trans rfl
      have hcz61_1 : wc.cell? ⟨gb227, 1, none⟩ = some (.int .i8 (IntKind.i8.wrap (Go.bits .and .u32 (a0 / 8388608) 15))) := (blk_cell BK227.out 1).trans rfl
      have hcz61_2 : wc.cell? ⟨gb227, 2, none⟩ = some (.int .i8 (IntKind.i8.wrap (Go.bits .and .u32 (a0 / 524288) 15))) := (blk_cell BK227.out 2).trans rfl
      have hcz61_3 : wc.cell? ⟨gb227, 3, none⟩ = some (.int .i8 (IntKind.i8.wrap (Go.bits .and .u32 (a0 / 32768) 15))) := (blk_cell BK227.out 3).trans rfl
      have hcz61_4 : wc.cell? ⟨gb227, 4, none⟩ = some (.int .i64 (wrap64 (Go.bits .and .u32 a0 32767))) := (blk_cell BK227.out 4).trans rfl
      have hfz61_0 := blk_frozen BK227.out 0
      have hfz61_1 := blk_frozen BK227.out 1
      have hfz61_2 := blk_frozen BK227.out 2
      have hfz61_3 := blk_frozen BK227.out 3
      have hfz61_4 := blk_frozen BK227.out 4
      go_wp2_with (first | ((with_reducible refine gate_callee (f := 25) rfl ?_); refine goesL_ (some 47) rfl rfl Try.func25 (by kernel_rfl) rfl #[.agg #[.int .i8 (IntKind.i8.wrap (a0 / 134217728)), .int .i8 (IntKind.i8.wrap (Go.bits .and .u32 (a0 / 8388608) 15)), .int .i8 (IntKind.i8.wrap (Go.bits .and .u32 (a0 / 524288) 15)), .int .i8 (IntKind.i8.wrap (Go.bits .and .u32 (a0 / 32768) 15)), .int .i64 (wrap64 (Go.bits .and .u32 a0 32767))]] rfl (by (try simp only [List.map_toArray, List.map_cons, List.map_nil]); first | done | rfl | (simp only [List.length_drop, List.length_take]; rfl)) ?_; (with_reducible refine (pleatref02_Encode.calls kj2 (IntKind.i8.wrap (a0 / 134217728)) (IntKind.i8.wrap (Go.bits .and .u32 (a0 / 8388608) 15)) (IntKind.i8.wrap (Go.bits .and .u32 (a0 / 524288) 15)) (IntKind.i8.wrap (Go.bits .and .u32 (a0 / 32768) 15)) (wrap64 (Go.bits .and .u32 a0 32767)) t236 t237 _ A49.out).mono ?_); rintro e w62 ⟨rfl, hb⟩; refine ⟨_, rfl, ?_⟩; have n0_ := Aside0.mk (blk_below (g := gb226) (o := .cells #[.int .i8 0, .int .i8 0, .int .i8 0, .int .i8 0, .int .i64 0] 40 (0, 0)) (by (with_reducible repeat (first | refine blk_drewN ?_ _ | refine blk_drew ?_ | refine blk_alloc ?_ _)); exact BK226.out) hb); have n1_ := Aside0.mk (blk_below (g := gb227) (o := .cells #[.int .i8 (IntKind.i8.wrap (a0 / 134217728)), .int .i8 (IntKind.i8.wrap (Go.bits .and .u32 (a0 / 8388608) 15)), .int .i8 (IntKind.i8.wrap (Go.bits .and .u32 (a0 / 524288) 15)), .int .i8 (IntKind.i8.wrap (Go.bits .and .u32 (a0 / 32768) 15)), .int .i64 (wrap64 (Go.bits .and .u32 a0 32767))] 40 (0, 0)) (by (with_reducible repeat (first | refine blk_drewN ?_ _ | refine blk_drew ?_ | refine blk_alloc ?_ _)); exact BK227.out) hb); have n2_ := Aside0.mk (blk_below (g := gb233) (o := .cells #[.bool t228, .bool t229, .bool t230, .bool t231, .bool t232] 57 (0, 0)) (by (with_reducible repeat (first | refine blk_drewN ?_ _ | refine blk_drew ?_ | refine blk_alloc ?_ _)); exact BK233.out) hb); have n3_ := Aside0.mk (below_step (by repeat (first | (with_reducible first | exact HB.out | apply below_alloc | apply pw_below_drewN | apply below_drew1 | refine below_set ?_ GE226.out | refine below_set ?_ GE227.out | refine below_set ?_ GE233.out) | exact HB.out)) hb); clear BK226; clear BK227; clear BK233; clear HB; have BK226 := n0_; have BK227 := n1_; have BK233 := n2_; have HB := n3_; clear n0_ n1_ n2_ n3_; (try clear hb); (try clear hb2); (try clear hk); (try clear hi); have hnb63 := NB226_233.out; have hnc63 := NB233_226.out; have hcz64_0 : w62.cell? ⟨gb226, 0, none⟩ = some (.int .i8 0) := (blk_cell BK226.out 0).trans rfl; have hcz64_1 : w62.cell? ⟨gb226, 1, none⟩ = some (.int .i8 0) := (blk_cell BK226.out 1).trans rfl; have hcz64_2 : w62.cell? ⟨gb226, 2, none⟩ = some (.int .i8 0) := (blk_cell BK226.out 2).trans rfl; have hcz64_3 : w62.cell? ⟨gb226, 3, none⟩ = some (.int .i8 0) := (blk_cell BK226.out 3).trans rfl; have hcz64_4 : w62.cell? ⟨gb226, 4, none⟩ = some (.int .i64 0) := (blk_cell BK226.out 4).trans rfl; have hfz64_0 := blk_frozen BK226.out 0; have hfz64_1 := blk_frozen BK226.out 1; have hfz64_2 := blk_frozen BK226.out 2; have hfz64_3 := blk_frozen BK226.out 3; have hfz64_4 := blk_frozen BK226.out 4))
      refine bodyPost_ret (results_cell_row rfl _ _ gb226 40 #[.int .i8 (-1), .int .i8 0, .int .i8 0, .int .i8 0, .int .i64 (wrap64 (a0))] (0, 0) _ rfl (by (with_reducible repeat (first | refine blk_drewN ?_ _ | refine blk_drew ?_ | refine blk_alloc ?_ _)); refine blk_put (cs := #[.int .i8 (-1), .int .i8 0, .int .i8 0, .int .i8 0, .int .i64 0]) ?_ 4 _ rfl; (with_reducible repeat (first | refine blk_drewN ?_ _ | refine blk_drew ?_ | refine blk_alloc ?_ _)); refine blk_put (cs := #[.int .i8 (-1), .int .i8 0, .int .i8 0, .int .i8 0, .int .i64 0]) ?_ 3 _ rfl; (with_reducible repeat (first | refine blk_drewN ?_ _ | refine blk_drew ?_ | refine blk_alloc ?_ _)); refine blk_put (cs := #[.int .i8 (-1), .int .i8 0, .int .i8 0, .int .i8 0, .int .i64 0]) ?_ 2 _ rfl; (with_reducible repeat (first | refine blk_drewN ?_ _ | refine blk_drew ?_ | refine blk_alloc ?_ _)); refine blk_put (cs := #[.int .i8 (-1), .int .i8 0, .int .i8 0, .int .i8 0, .int .i64 0]) ?_ 1 _ rfl; (with_reducible repeat (first | refine blk_drewN ?_ _ | refine blk_drew ?_ | refine blk_alloc ?_ _)); refine blk_put (cs := #[.int .i8 0, .int .i8 0, .int .i8 0, .int .i8 0, .int .i64 0]) ?_ 0 _ rfl; (with_reducible repeat (first | refine blk_drewN ?_ _ | refine blk_drew ?_ | refine blk_alloc ?_ _)); exact BK226.out) Try.underlying40 rfl (by kernel_rfl)) rfl ?_
      exact ⟨by first | rfl | (simp [errW_none, errW_some] <;> rfl) | (simp [*, errW_none, errW_some] <;> rfl), by repeat (first | (with_reducible first | exact HB.out | apply below_alloc | apply pw_below_drewN | apply below_drew1 | refine below_set ?_ GE226.out | refine below_set ?_ GE227.out | refine below_set ?_ GE233.out) | exact HB.out)⟩
    ·rw [if_neg c50] at H
     have c50b0 : (t237 == 0) = false := beq_eq_false_iff_ne.mpr c50
     have c50b1 : (t237 != 0) = true := bne_iff_ne.mpr c50
     simp only [Option.some.injEq, Prod.mk.injEq] at H
     obtain ⟨rfl, rfl, rfl, rfl, rfl⟩ := H
     have hnb65 := NB227_226.out
     have hnc65 := NB226_227.out
     have hnb66 := NB227_233.out
     have hnc66 := NB233_227.out
     have hcz67_0 : wc.cell? ⟨gb227, 0, none⟩ = some (.int .i8 (IntKind.i8.wrap (a0 / 134217728))) := (blk_cell BK227.out 0).trans rfl
     have hcz67_1 : wc.cell? ⟨gb227, 1, none⟩ = some (.int .i8 (IntKind.i8.wrap (Go.bits .and .u32 (a0 / 8388608) 15))) := (blk_cell BK227.out 1).trans rfl
     have hcz67_2 : wc.cell? ⟨gb227, 2, none⟩ = some (.int .i8 (IntKind.i8.wrap (Go.bits .and .u32 (a0 / 524288) 15))) := (blk_cell BK227.out 2).trans rfl
     have hcz67_3 : wc.cell? ⟨gb227, 3, none⟩ = some (.int .i8 (IntKind.i8.wrap (Go.bits .and .u32 (a0 / 32768) 15))) := (blk_cell BK227.out 3).trans rfl
     have hcz67_4 : wc.cell? ⟨gb227, 4, none⟩ = some (.int .i64 (wrap64 (Go.bits .and .u32 a0 32767))) := (blk_cell BK227.out 4).trans rfl
     have hfz67_0 := blk_frozen BK227.out 0
     have hfz67_1 := blk_frozen BK227.out 1
     have hfz67_2 := blk_frozen BK227.out 2
     have hfz67_3 := blk_frozen BK227.out 3
     have hfz67_4 := blk_frozen BK227.out 4
     go_wp2_with (first | ((with_reducible refine gate_callee (f := 25) rfl ?_); refine goesL_ (some 47) rfl rfl Try.func25 (by kernel_rfl) rfl #[.agg #[.int .i8 (IntKind.i8.wrap (a0 / 134217728)), .int .i8 (IntKind.i8.wrap (Go.bits .and .u32 (a0 / 8388608) 15)), .int .i8 (IntKind.i8.wrap (Go.bits .and .u32 (a0 / 524288) 15)), .int .i8 (IntKind.i8.wrap (Go.bits .and .u32 (a0 / 32768) 15)), .int .i64 (wrap64 (Go.bits .and .u32 a0 32767))]] rfl (by (try simp only [List.map_toArray, List.map_cons, List.map_nil]); first | done | rfl | (simp only [List.length_drop, List.length_take]; rfl)) ?_; (with_reducible refine (pleatref02_Encode.calls kj2 (IntKind.i8.wrap (a0 / 134217728)) (IntKind.i8.wrap (Go.bits .and .u32 (a0 / 8388608) 15)) (IntKind.i8.wrap (Go.bits .and .u32 (a0 / 524288) 15)) (IntKind.i8.wrap (Go.bits .and .u32 (a0 / 32768) 15)) (wrap64 (Go.bits .and .u32 a0 32767)) t236 t237 _ A49.out).mono ?_); rintro e w68 ⟨rfl, hb⟩; refine ⟨_, rfl, ?_⟩; have n0_ := Aside0.mk (blk_below (g := gb226) (o := .cells #[.int .i8 0, .int .i8 0, .int .i8 0, .int .i8 0, .int .i64 0] 40 (0, 0)) (by (with_reducible repeat (first | refine blk_drewN ?_ _ | refine blk_drew ?_ | refine blk_alloc ?_ _)); exact BK226.out) hb); have n1_ := Aside0.mk (blk_below (g := gb227) (o := .cells #[.int .i8 (IntKind.i8.wrap (a0 / 134217728)), .int .i8 (IntKind.i8.wrap (Go.bits .and .u32 (a0 / 8388608) 15)), .int .i8 (IntKind.i8.wrap (Go.bits .and .u32 (a0 / 524288) 15)), .int .i8 (IntKind.i8.wrap (Go.bits .and .u32 (a0 / 32768) 15)), .int .i64 (wrap64 (Go.bits .and .u32 a0 32767))] 40 (0, 0)) (by (with_reducible repeat (first | refine blk_drewN ?_ _ | refine blk_drew ?_ | refine blk_alloc ?_ _)); exact BK227.out) hb); have n2_ := Aside0.mk (blk_below (g := gb233) (o := .cells #[.bool t228, .bool t229, .bool t230, .bool t231, .bool t232] 57 (0, 0)) (by (with_reducible repeat (first | refine blk_drewN ?_ _ | refine blk_drew ?_ | refine blk_alloc ?_ _)); exact BK233.out) hb); have n3_ := Aside0.mk (below_step (by repeat (first | (with_reducible first | exact HB.out | apply below_alloc | apply pw_below_drewN | apply below_drew1 | refine below_set ?_ GE226.out | refine below_set ?_ GE227.out | refine below_set ?_ GE233.out) | exact HB.out)) hb); clear BK226; clear BK227; clear BK233; clear HB; have BK226 := n0_; have BK227 := n1_; have BK233 := n2_; have HB := n3_; clear n0_ n1_ n2_ n3_; (try clear hb); (try clear hb2); (try clear hk); (try clear hi); have hnb69 := NB226_233.out; have hnc69 := NB233_226.out; have hcz70_0 : w68.cell? ⟨gb226, 0, none⟩ = some (.int .i8 0) := (blk_cell BK226.out 0).trans rfl; have hcz70_1 : w68.cell? ⟨gb226, 1, none⟩ = some (.int .i8 0) := (blk_cell BK226.out 1).trans rfl; have hcz70_2 : w68.cell? ⟨gb226, 2, none⟩ = some (.int .i8 0) := (blk_cell BK226.out 2).trans rfl; have hcz70_3 : w68.cell? ⟨gb226, 3, none⟩ = some (.int .i8 0) := (blk_cell BK226.out 3).trans rfl; have hcz70_4 : w68.cell? ⟨gb226, 4, none⟩ = some (.int .i64 0) := (blk_cell BK226.out 4).trans rfl; have hfz70_0 := blk_frozen BK226.out 0; have hfz70_1 := blk_frozen BK226.out 1; have hfz70_2 := blk_frozen BK226.out 2; have hfz70_3 := blk_frozen BK226.out 3; have hfz70_4 := blk_frozen BK226.out 4))
     refine bodyPost_ret (results_cell_row rfl _ _ gb226 40 #[.int .i8 (-1), .int .i8 0, .int .i8 0, .int .i8 0, .int .i64 (wrap64 (a0))] (0, 0) _ rfl (by (with_reducible repeat (first | refine blk_drewN ?_ _ | refine blk_drew ?_ | refine blk_alloc ?_ _)); refine blk_put (cs := #[.int .i8 (-1), .int .i8 0, .int .i8 0, .int .i8 0, .int .i64 0]) ?_ 4 _ rfl; (with_reducible repeat (first | refine blk_drewN ?_ _ | refine blk_drew ?_ | refine blk_alloc ?_ _)); refine blk_put (cs := #[.int .i8 (-1), .int .i8 0, .int .i8 0, .int .i8 0, .int .i64 0]) ?_ 3 _ rfl; (with_reducible repeat (first | refine blk_drewN ?_ _ | refine blk_drew ?_ | refine blk_alloc ?_ _)); refine blk_put (cs := #[.int .i8 (-1), .int .i8 0, .int .i8 0, .int .i8 0, .int .i64 0]) ?_ 2 _ rfl; (with_reducible repeat (first | refine blk_drewN ?_ _ | refine blk_drew ?_ | refine blk_alloc ?_ _)); refine blk_put (cs := #[.int .i8 (-1), .int .i8 0, .int .i8 0, .int .i8 0, .int .i64 0]) ?_ 1 _ rfl; (with_reducible repeat (first | refine blk_drewN ?_ _ | refine blk_drew ?_ | refine blk_alloc ?_ _)); refine blk_put (cs := #[.int .i8 0, .int .i8 0, .int .i8 0, .int .i8 0, .int .i64 0]) ?_ 0 _ rfl; (with_reducible repeat (first | refine blk_drewN ?_ _ | refine blk_drew ?_ | refine blk_alloc ?_ _)); exact BK226.out) Try.underlying40 rfl (by kernel_rfl)) rfl ?_
     exact ⟨by first | rfl | (simp [errW_none, errW_some] <;> rfl) | (simp [*, errW_none, errW_some] <;> rfl), by repeat (first | (with_reducible first | exact HB.out | apply below_alloc | apply pw_below_drewN | apply below_drew1 | refine below_set ?_ GE226.out | refine below_set ?_ GE227.out | refine below_set ?_ GE233.out) | exact HB.out)⟩

/-! ### pleatref13_bit: function 48 -/
def pleatref13_bit.f (a0 : Bool) (a1 : Int) : Option (Int) := if a0 = true then (if 0 ≤ a1 then (some (shl .u16 1 a1)) else (none)) else (some 0)
set_option maxHeartbeats 8000000 in
set_option maxRecDepth 100000 in
theorem pleatref13_bit.calls (a0 : Bool) (a1 : Int) (r : Int) (w : World) (h : pleatref13_bit.f a0 a1 = some r) :
  Calls Try.prog 48 #[.bool a0, .int .i8 a1] w fun e w' => e = .returned (.int .u16 r) ∧ Drawn0 w w' := by
 have H : (if a0 = true then (if 0 ≤ a1 then (some (shl .u16 1 a1)) else (none)) else (some 0)) = some r := h
 clear h
 by_cases c3 : a0 = true
 ·subst c3
  have H1 : (if 0 ≤ a1 then (some (shl .u16 1 a1)) else (none)) = some r := by rw [if_pos rfl] at H; exact H
  clear H
  have H := H1
  clear H1
  by_cases c4 : 0 ≤ a1
  ·rw [if_pos c4] at H
   have c4b0 := eq_true c4
   have c4b1 : decide (0 ≤ a1) = true := decide_eq_true c4
   clear c4
   obtain ⟨ji5, hji5⟩ : ∃ j_ : Int, (shl .u16 1 a1) = j_ := ⟨_, rfl⟩
   replace H : (some ji5) = some r := by first | (rw [hji5] at H; exact H) | (simp only [hji5] at H ⊢; exact H)
   have hji5_ : (IntKind.u16.wrap (1 * 2 ^ min a1.toNat 16)) = ji5 := hji5
   have hji5z : a1 ≤ 16 → (IntKind.u16.wrap (1 * 2 ^ a1.toNat)) = ji5 := shl_small hji5
   have hji5u : (IntKind.u16.wrap (2 ^ min a1.toNat 16)) = ji5 := by have h_ := hji5_; rw [Int.one_mul] at h_; exact h_
   have hji5v : a1 ≤ 16 → (IntKind.u16.wrap (2 ^ a1.toNat)) = ji5 := fun hle_ => by have h_ := hji5z hle_; rw [Int.one_mul] at h_; exact h_
   obtain rfl := Option.some.inj H
   go_enter Try.func48, Try.ntmps48
   go_wp2
   go_ret
   exact ⟨by first | rfl | (simp; done) | (simp only [← hji5] <;> (first | rfl | simp)) | (simp [*]; done), by repeat (first | exact Drawn0.refl _ | apply Drawn0.step)⟩
  ·rw [if_neg c4] at H
   exact absurd H (by simp)
 ·replace c3 := Bool.eq_false_iff.mpr c3
  subst c3
  have H1 : (some 0) = some r := by rw [if_neg (show ¬ (false = true) by decide)] at H; exact H
  clear H
  have H := H1
  clear H1
  obtain rfl := Option.some.inj H
  go_enter Try.func48, Try.ntmps48
  go_wp2
  go_ret
  exact ⟨by first | rfl | (simp; done) | (simp [*]; done), by repeat (first | exact Drawn0.refl _ | apply Drawn0.step)⟩

/-! ### pleatref13_Reads: function 40 -/
def pleatref13_Reads.f (k : Nat) (a0 : Int) : Option (Int) := (pleatref02_Decode.f k a0).bind fun bt238 => ((pleatref02_Has.f k bt238.1).bind fun bt244 => ((pleatref13_bit.f bt244.2.1 bt238.2.2.1).bind fun t250 => ((pleatref13_bit.f bt244.2.2.1 bt238.2.2.2.1).bind fun t251 => (some (Go.bits .or .u16 t250 t251)))))
theorem pleatref13_Reads.mono : ∀ a0 k, LeO (pleatref13_Reads.f k a0) (pleatref13_Reads.f (k + 1) a0) := by
 intro a0 k
 unfold pleatref13_Reads.f
 repeat' first
   | (with_reducible exact pleatref02_Decode.mono _ _)
   | (with_reducible exact pleatref02_Has.mono _ _)
   | (with_reducible exact LeO.refl _)
   | (with_reducible exact LeO.none _)
   | (with_reducible refine LeO.ite ?_ ?_)
   | (with_reducible refine LeO.bind ?_ (fun _ => ?_))
   | exact pleatref02_Decode.mono _ _
   | exact pleatref02_Has.mono _ _
   | exact LeO.none _
   | refine LeO.ite ?_ ?_
   | refine LeO.bind ?_ (fun _ => ?_)
set_option maxHeartbeats 8000000 in
set_option maxRecDepth 100000 in
theorem pleatref13_Reads.calls (k : Nat) (a0 : Int) (r : Int) (w : World) (h : pleatref13_Reads.f k a0 = some r) :
  Calls Try.prog 40 #[.int .u32 a0] w fun e w' => e = .returned (.int .u16 r) ∧ Below w.heap.size w w' := by
 have hu40 := Try.underlying40
 have hu57 := Try.underlying57
 have HB := Aside0.mk (Below.refl w.heap.size w)
 have H : ((pleatref02_Decode.f k a0).bind fun bt238 => ((pleatref02_Has.f k bt238.1).bind fun bt244 => ((pleatref13_bit.f bt244.2.1 bt238.2.2.1).bind fun t250 => ((pleatref13_bit.f bt244.2.2.1 bt238.2.2.2.1).bind fun t251 => (some (Go.bits .or .u16 t250 t251)))))) = some r := h
 clear h
 replace H := Option.bind_eq_some_iff.mp H
 obtain ⟨⟨t238, t239, t240, t241, t242⟩, A20, H⟩ := H
 replace H : ((pleatref02_Has.f k t238).bind fun bt244 => ((pleatref13_bit.f bt244.2.1 t240).bind fun t250 => ((pleatref13_bit.f bt244.2.2.1 t241).bind fun t251 => (some (Go.bits .or .u16 t250 t251))))) = some r := H
 have A2 := Aside0.mk A20
 clear A20
 replace H := Option.bind_eq_some_iff.mp H
 obtain ⟨⟨t244, t245, t246, t247, t248⟩, A30, H⟩ := H
 replace H : ((pleatref13_bit.f t245 t240).bind fun t250 => ((pleatref13_bit.f t246 t241).bind fun t251 => (some (Go.bits .or .u16 t250 t251)))) = some r := H
 have A3 := Aside0.mk A30
 clear A30
 replace H := Option.bind_eq_some_iff.mp H
 obtain ⟨t250, A40, H⟩ := H
 replace H : ((pleatref13_bit.f t246 t241).bind fun t251 => (some (Go.bits .or .u16 t250 t251))) = some r := H
 have A4 := Aside0.mk A40
 clear A40
 replace H := Option.bind_eq_some_iff.mp H
 obtain ⟨t251, A50, H⟩ := H
 replace H : (some (Go.bits .or .u16 t250 t251)) = some r := H
 have A5 := Aside0.mk A50
 clear A50
 obtain rfl := Option.some.inj H
 go_enter Try.func40, Try.ntmps40
 go_wp2_with (first | (go_at_call 15; (with_reducible refine (pleatref02_Decode.calls k a0 t238 t239 t240 t241 t242 _ A2.out).mono ?_); rintro e w6 ⟨rfl, hb⟩; have n0_ := Aside0.mk (below_step (by repeat (first | (with_reducible first | exact HB.out | apply below_alloc | apply pw_below_drewN | apply below_drew1) | exact HB.out)) hb); clear HB; have HB := n0_; clear n0_; (try clear hb); (try clear hb2); (try clear hk); (try clear hi)) | ((with_reducible refine gate_dst (N := 3) rfl ?_); refine box_event ?hg (N := 3) ?hd (cs := #[.int .i8 0, .int .i8 0, .int .i8 0, .int .i8 0, .int .i64 0]) (t := 40) ?hr ?_; (case hd => rfl); (case hg => rfl); (case hr => first | (go_simp; done) | (go_simp; rfl)); intro gb243 hg w7 hbox hb; have n0_ := Aside0.mk (below_step (by repeat (first | (with_reducible first | exact HB.out | apply below_alloc | apply pw_below_drewN | apply below_drew1) | exact HB.out)) hb); have n1_ := Aside0.mk (hbox); have n2_ := Aside0.mk ((by rw [hg]; exact (below_size (by repeat (first | (with_reducible first | exact HB.out | apply below_alloc | apply pw_below_drewN | apply below_drew1) | exact HB.out))) : w.heap.size ≤ gb243)); have n3_ := Aside0.mk ((by rw [hg]; exact (below_size (by repeat (first | (with_reducible first | exact HB.out | apply below_alloc | apply pw_below_drewN | apply below_drew1) | exact HB.out))) : w.heap.size ≤ gb243)); clear HB; have HB := n0_; have BK243 := n1_; have GW243 := n2_; have GE243 := n3_; clear n0_ n1_ n2_ n3_; clear hb hbox hg; have hcz8_0 : w7.cell? ⟨gb243, 0, none⟩ = some (.int .i8 0) := (blk_cell BK243.out 0).trans rfl; have hcz8_1 : w7.cell? ⟨gb243, 1, none⟩ = some (.int .i8 0) := (blk_cell BK243.out 1).trans rfl; have hcz8_2 : w7.cell? ⟨gb243, 2, none⟩ = some (.int .i8 0) := (blk_cell BK243.out 2).trans rfl; have hcz8_3 : w7.cell? ⟨gb243, 3, none⟩ = some (.int .i8 0) := (blk_cell BK243.out 3).trans rfl; have hcz8_4 : w7.cell? ⟨gb243, 4, none⟩ = some (.int .i64 0) := (blk_cell BK243.out 4).trans rfl; have hfz8_0 := blk_frozen BK243.out 0; have hfz8_1 := blk_frozen BK243.out 1; have hfz8_2 := blk_frozen BK243.out 2; have hfz8_3 := blk_frozen BK243.out 3; have hfz8_4 := blk_frozen BK243.out 4) | (go_at_call 24; (with_reducible refine (pleatref02_Has.calls k t238 t244 t245 t246 t247 t248 _ A3.out).mono ?_); rintro e w9 ⟨rfl, hb⟩; have n0_ := Aside0.mk (blk_below (g := gb243) (o := .cells #[.int .i8 t238, .int .i8 t239, .int .i8 t240, .int .i8 t241, .int .i64 t242] 40 (0, 0)) (by (with_reducible repeat (first | refine blk_drewN ?_ _ | refine blk_drew ?_ | refine blk_alloc ?_ _)); refine blk_put (cs := #[.int .i8 t238, .int .i8 t239, .int .i8 t240, .int .i8 t241, .int .i64 0]) ?_ 4 _ rfl; (with_reducible repeat (first | refine blk_drewN ?_ _ | refine blk_drew ?_ | refine blk_alloc ?_ _)); refine blk_put (cs := #[.int .i8 t238, .int .i8 t239, .int .i8 t240, .int .i8 0, .int .i64 0]) ?_ 3 _ rfl; (with_reducible repeat (first | refine blk_drewN ?_ _ | refine blk_drew ?_ | refine blk_alloc ?_ _)); refine blk_put (cs := #[.int .i8 t238, .int .i8 t239, .int .i8 0, .int .i8 0, .int .i64 0]) ?_ 2 _ rfl; (with_reducible repeat (first | refine blk_drewN ?_ _ | refine blk_drew ?_ | refine blk_alloc ?_ _)); refine blk_put (cs := #[.int .i8 t238, .int .i8 0, .int .i8 0, .int .i8 0, .int .i64 0]) ?_ 1 _ rfl; (with_reducible repeat (first | refine blk_drewN ?_ _ | refine blk_drew ?_ | refine blk_alloc ?_ _)); refine blk_put (cs := #[.int .i8 0, .int .i8 0, .int .i8 0, .int .i8 0, .int .i64 0]) ?_ 0 _ rfl; (with_reducible repeat (first | refine blk_drewN ?_ _ | refine blk_drew ?_ | refine blk_alloc ?_ _)); exact BK243.out) hb); have n1_ := Aside0.mk (below_step (by repeat (first | (with_reducible first | exact HB.out | apply below_alloc | apply pw_below_drewN | apply below_drew1 | refine below_set ?_ GE243.out) | exact HB.out)) hb); clear BK243; clear HB; have BK243 := n0_; have HB := n1_; clear n0_ n1_; (try clear hb); (try clear hb2); (try clear hk); (try clear hi)) | ((with_reducible refine gate_dst (N := 4) rfl ?_); refine box_event ?hg (N := 4) ?hd (cs := #[.bool false, .bool false, .bool false, .bool false, .bool false]) (t := 57) ?hr ?_; (case hd => rfl); (case hg => rfl); (case hr => first | (go_simp; done) | (go_simp; rfl)); intro gb249 hg w10 hbox hb; have n0_ := Aside0.mk (blk_below (g := gb243) (o := .cells #[.int .i8 t238, .int .i8 t239, .int .i8 t240, .int .i8 t241, .int .i64 t242] 40 (0, 0)) (by (with_reducible repeat (first | refine blk_drewN ?_ _ | refine blk_drew ?_ | refine blk_alloc ?_ _)); exact BK243.out) hb); have n1_ := Aside0.mk (below_step (by repeat (first | (with_reducible first | exact HB.out | apply below_alloc | apply pw_below_drewN | apply below_drew1 | refine below_set ?_ GE243.out) | exact HB.out)) hb); have n2_ := Aside0.mk (hbox); have n3_ := Aside0.mk ((by rw [hg]; exact (below_size (by repeat (first | (with_reducible first | exact HB.out | apply below_alloc | apply pw_below_drewN | apply below_drew1 | refine below_set ?_ GE243.out) | exact HB.out))) : w.heap.size ≤ gb249)); have n4_ := Aside0.mk ((by rw [hg]; exact (below_size (by repeat (first | (with_reducible first | exact HB.out | apply below_alloc | apply pw_below_drewN | apply below_drew1 | refine below_set ?_ GE243.out) | exact HB.out))) : w.heap.size ≤ gb249)); have n5_ := Aside0.mk ((by rw [hg]; exact Nat.ne_of_lt (blk_lt (g := gb243) (o := .cells #[.int .i8 t238, .int .i8 t239, .int .i8 t240, .int .i8 t241, .int .i64 t242] 40 (0, 0)) (by (with_reducible repeat (first | refine blk_drewN ?_ _ | refine blk_drew ?_ | refine blk_alloc ?_ _)); exact BK243.out)) : gb243 ≠ gb249)); have n6_ := Aside0.mk ((by rw [hg]; exact Nat.ne_of_gt (blk_lt (g := gb243) (o := .cells #[.int .i8 t238, .int .i8 t239, .int .i8 t240, .int .i8 t241, .int .i64 t242] 40 (0, 0)) (by (with_reducible repeat (first | refine blk_drewN ?_ _ | refine blk_drew ?_ | refine blk_alloc ?_ _)); exact BK243.out)) : gb249 ≠ gb243)); clear BK243; clear HB; have BK243 := n0_; have HB := n1_; have BK249 := n2_; have GW249 := n3_; have GE249 := n4_; have NB243_249 := n5_; have NB249_243 := n6_; clear n0_ n1_ n2_ n3_ n4_ n5_ n6_; clear hb hbox hg; have hnb11 := NB249_243.out; have hnc11 := NB243_249.out; have hcz12_0 : w10.cell? ⟨gb249, 0, none⟩ = some (.bool false) := (blk_cell BK249.out 0).trans rfl; have hcz12_1 : w10.cell? ⟨gb249, 1, none⟩ = some (.bool false) := (blk_cell BK249.out 1).trans rfl; have hcz12_2 : w10.cell? ⟨gb249, 2, none⟩ = some (.bool false) := (blk_cell BK249.out 2).trans rfl; have hcz12_3 : w10.cell? ⟨gb249, 3, none⟩ = some (.bool false) := (blk_cell BK249.out 3).trans rfl; have hcz12_4 : w10.cell? ⟨gb249, 4, none⟩ = some (.bool false) := (blk_cell BK249.out 4).trans rfl; have hfz12_0 := blk_frozen BK249.out 0; have hfz12_1 := blk_frozen BK249.out 1; have hfz12_2 := blk_frozen BK249.out 2; have hfz12_3 := blk_frozen BK249.out 3; have hfz12_4 := blk_frozen BK249.out 4; have hcz13_0 : w10.cell? ⟨gb243, 0, none⟩ = some (.int .i8 t238) := (blk_cell BK243.out 0).trans rfl; have hcz13_1 : w10.cell? ⟨gb243, 1, none⟩ = some (.int .i8 t239) := (blk_cell BK243.out 1).trans rfl; have hcz13_2 : w10.cell? ⟨gb243, 2, none⟩ = some (.int .i8 t240) := (blk_cell BK243.out 2).trans rfl; have hcz13_3 : w10.cell? ⟨gb243, 3, none⟩ = some (.int .i8 t241) := (blk_cell BK243.out 3).trans rfl; have hcz13_4 : w10.cell? ⟨gb243, 4, none⟩ = some (.int .i64 t242) := (blk_cell BK243.out 4).trans rfl; have hfz13_0 := blk_frozen BK243.out 0; have hfz13_1 := blk_frozen BK243.out 1; have hfz13_2 := blk_frozen BK243.out 2; have hfz13_3 := blk_frozen BK243.out 3; have hfz13_4 := blk_frozen BK243.out 4) | (go_at_call 48; (with_reducible refine (pleatref13_bit.calls t245 t240 t250 _ A4.out).mono ?_); rintro e w' ⟨rfl, ⟨nd, rfl⟩⟩; (try first | exact ⟨rfl, _, World.drewN_drewN _ _ _⟩ | exact ⟨rfl, _, Eq.trans (World.drewN_drewN _ _ _) (congrArg (World.drewN _) (Nat.add_assoc _ _ _))⟩)) | (go_at_call 48; (with_reducible refine (pleatref13_bit.calls t246 t241 t251 _ A5.out).mono ?_); rintro e w' ⟨rfl, ⟨nd, rfl⟩⟩; (try first | exact ⟨rfl, _, World.drewN_drewN _ _ _⟩ | exact ⟨rfl, _, Eq.trans (World.drewN_drewN _ _ _) (congrArg (World.drewN _) (Nat.add_assoc _ _ _))⟩)))
 repeat (go_quiet (first | (go_at_call 15; (with_reducible refine (pleatref02_Decode.calls k a0 t238 t239 t240 t241 t242 _ A2.out).mono ?_); rintro e w6 ⟨rfl, hb⟩; have n0_ := Aside0.mk (below_step (by repeat (first | (with_reducible first | exact HB.out | apply below_alloc | apply pw_below_drewN | apply below_drew1) | exact HB.out)) hb); clear HB; have HB := n0_; clear n0_; (try clear hb); (try clear hb2); (try clear hk); (try clear hi)) | ((with_reducible refine gate_dst (N := 3) rfl ?_); refine box_event ?hg (N := 3) ?hd (cs := #[.int .i8 0, .int .i8 0, .int .i8 0, .int .i8 0, .int .i64 0]) (t := 40) ?hr ?_; (case hd => rfl); (case hg => rfl); (case hr => first | (go_simp; done) | (go_simp; rfl)); intro gb243 hg w7 hbox hb; have n0_ := Aside0.mk (below_step (by repeat (first | (with_reducible first | exact HB.out | apply below_alloc | apply pw_below_drewN | apply below_drew1) | exact HB.out)) hb); have n1_ := Aside0.mk (hbox); have n2_ := Aside0.mk ((by rw [hg]; exact (below_size (by repeat (first | (with_reducible first | exact HB.out | apply below_alloc | apply pw_below_drewN | apply below_drew1) | exact HB.out))) : w.heap.size ≤ gb243)); have n3_ := Aside0.mk ((by rw [hg]; exact (below_size (by repeat (first | (with_reducible first | exact HB.out | apply below_alloc | apply pw_below_drewN | apply below_drew1) | exact HB.out))) : w.heap.size ≤ gb243)); clear HB; have HB := n0_; have BK243 := n1_; have GW243 := n2_; have GE243 := n3_; clear n0_ n1_ n2_ n3_; clear hb hbox hg; have hcz8_0 : w7.cell? ⟨gb243, 0, none⟩ = some (.int .i8 0) := (blk_cell BK243.out 0).trans rfl; have hcz8_1 : w7.cell? ⟨gb243, 1, none⟩ = some (.int .i8 0) := (blk_cell BK243.out 1).trans rfl; have hcz8_2 : w7.cell? ⟨gb243, 2, none⟩ = some (.int .i8 0) := (blk_cell BK243.out 2).trans rfl; have hcz8_3 : w7.cell? ⟨gb243, 3, none⟩ = some (.int .i8 0) := (blk_cell BK243.out 3).trans rfl; have hcz8_4 : w7.cell? ⟨gb243, 4, none⟩ = some (.int .i64 0) := (blk_cell BK243.out 4).trans rfl; have hfz8_0 := blk_frozen BK243.out 0; have hfz8_1 := blk_frozen BK243.out 1; have hfz8_2 := blk_frozen BK243.out 2; have hfz8_3 := blk_frozen BK243.out 3; have hfz8_4 := blk_frozen BK243.out 4) | (go_at_call 24; (with_reducible refine (pleatref02_Has.calls k t238 t244 t245 t246 t247 t248 _ A3.out).mono ?_); rintro e w9 ⟨rfl, hb⟩; have n0_ := Aside0.mk (blk_below (g := gb243) (o := .cells #[.int .i8 t238, .int .i8 t239, .int .i8 t240, .int .i8 t241, .int .i64 t242] 40 (0, 0)) (by (with_reducible repeat (first | refine blk_drewN ?_ _ | refine blk_drew ?_ | refine blk_alloc ?_ _)); refine blk_put (cs := #[.int .i8 t238, .int .i8 t239, .int .i8 t240, .int .i8 t241, .int .i64 0]) ?_ 4 _ rfl; (with_reducible repeat (first | refine blk_drewN ?_ _ | refine blk_drew ?_ | refine blk_alloc ?_ _)); refine blk_put (cs := #[.int .i8 t238, .int .i8 t239, .int .i8 t240, .int .i8 0, .int .i64 0]) ?_ 3 _ rfl; (with_reducible repeat (first | refine blk_drewN ?_ _ | refine blk_drew ?_ | refine blk_alloc ?_ _)); refine blk_put (cs := #[.int .i8 t238, .int .i8 t239, .int .i8 0, .int .i8 0, .int .i64 0]) ?_ 2 _ rfl; (with_reducible repeat (first | refine blk_drewN ?_ _ | refine blk_drew ?_ | refine blk_alloc ?_ _)); refine blk_put (cs := #[.int .i8 t238, .int .i8 0, .int .i8 0, .int .i8 0, .int .i64 0]) ?_ 1 _ rfl; (with_reducible repeat (first | refine blk_drewN ?_ _ | refine blk_drew ?_ | refine blk_alloc ?_ _)); refine blk_put (cs := #[.int .i8 0, .int .i8 0, .int .i8 0, .int .i8 0, .int .i64 0]) ?_ 0 _ rfl; (with_reducible repeat (first | refine blk_drewN ?_ _ | refine blk_drew ?_ | refine blk_alloc ?_ _)); exact BK243.out) hb); have n1_ := Aside0.mk (below_step (by repeat (first | (with_reducible first | exact HB.out | apply below_alloc | apply pw_below_drewN | apply below_drew1 | refine below_set ?_ GE243.out) | exact HB.out)) hb); clear BK243; clear HB; have BK243 := n0_; have HB := n1_; clear n0_ n1_; (try clear hb); (try clear hb2); (try clear hk); (try clear hi)) | ((with_reducible refine gate_dst (N := 4) rfl ?_); refine box_event ?hg (N := 4) ?hd (cs := #[.bool false, .bool false, .bool false, .bool false, .bool false]) (t := 57) ?hr ?_; (case hd => rfl); (case hg => rfl); (case hr => first | (go_simp; done) | (go_simp; rfl)); intro gb249 hg w10 hbox hb; have n0_ := Aside0.mk (blk_below (g := gb243) (o := .cells #[.int .i8 t238, .int .i8 t239, .int .i8 t240, .int .i8 t241, .int .i64 t242] 40 (0, 0)) (by (with_reducible repeat (first | refine blk_drewN ?_ _ | refine blk_drew ?_ | refine blk_alloc ?_ _)); exact BK243.out) hb); have n1_ := Aside0.mk (below_step (by repeat (first | (with_reducible first | exact HB.out | apply below_alloc | apply pw_below_drewN | apply below_drew1 | refine below_set ?_ GE243.out) | exact HB.out)) hb); have n2_ := Aside0.mk (hbox); have n3_ := Aside0.mk ((by rw [hg]; exact (below_size (by repeat (first | (with_reducible first | exact HB.out | apply below_alloc | apply pw_below_drewN | apply below_drew1 | refine below_set ?_ GE243.out) | exact HB.out))) : w.heap.size ≤ gb249)); have n4_ := Aside0.mk ((by rw [hg]; exact (below_size (by repeat (first | (with_reducible first | exact HB.out | apply below_alloc | apply pw_below_drewN | apply below_drew1 | refine below_set ?_ GE243.out) | exact HB.out))) : w.heap.size ≤ gb249)); have n5_ := Aside0.mk ((by rw [hg]; exact Nat.ne_of_lt (blk_lt (g := gb243) (o := .cells #[.int .i8 t238, .int .i8 t239, .int .i8 t240, .int .i8 t241, .int .i64 t242] 40 (0, 0)) (by (with_reducible repeat (first | refine blk_drewN ?_ _ | refine blk_drew ?_ | refine blk_alloc ?_ _)); exact BK243.out)) : gb243 ≠ gb249)); have n6_ := Aside0.mk ((by rw [hg]; exact Nat.ne_of_gt (blk_lt (g := gb243) (o := .cells #[.int .i8 t238, .int .i8 t239, .int .i8 t240, .int .i8 t241, .int .i64 t242] 40 (0, 0)) (by (with_reducible repeat (first | refine blk_drewN ?_ _ | refine blk_drew ?_ | refine blk_alloc ?_ _)); exact BK243.out)) : gb249 ≠ gb243)); clear BK243; clear HB; have BK243 := n0_; have HB := n1_; have BK249 := n2_; have GW249 := n3_; have GE249 := n4_; have NB243_249 := n5_; have NB249_243 := n6_; clear n0_ n1_ n2_ n3_ n4_ n5_ n6_; clear hb hbox hg; have hnb11 := NB249_243.out; have hnc11 := NB243_249.out; have hcz12_0 : w10.cell? ⟨gb249, 0, none⟩ = some (.bool false) := (blk_cell BK249.out 0).trans rfl; have hcz12_1 : w10.cell? ⟨gb249, 1, none⟩ = some (.bool false) := (blk_cell BK249.out 1).trans rfl; have hcz12_2 : w10.cell? ⟨gb249, 2, none⟩ = some (.bool false) := (blk_cell BK249.out 2).trans rfl; have hcz12_3 : w10.cell? ⟨gb249, 3, none⟩ = some (.bool false) := (blk_cell BK249.out 3).trans rfl; have hcz12_4 : w10.cell? ⟨gb249, 4, none⟩ = some (.bool false) := (blk_cell BK249.out 4).trans rfl; have hfz12_0 := blk_frozen BK249.out 0; have hfz12_1 := blk_frozen BK249.out 1; have hfz12_2 := blk_frozen BK249.out 2; have hfz12_3 := blk_frozen BK249.out 3; have hfz12_4 := blk_frozen BK249.out 4; have hcz13_0 : w10.cell? ⟨gb243, 0, none⟩ = some (.int .i8 t238) := (blk_cell BK243.out 0).trans rfl; have hcz13_1 : w10.cell? ⟨gb243, 1, none⟩ = some (.int .i8 t239) := (blk_cell BK243.out 1).trans rfl; have hcz13_2 : w10.cell? ⟨gb243, 2, none⟩ = some (.int .i8 t240) := (blk_cell BK243.out 2).trans rfl; have hcz13_3 : w10.cell? ⟨gb243, 3, none⟩ = some (.int .i8 t241) := (blk_cell BK243.out 3).trans rfl; have hcz13_4 : w10.cell? ⟨gb243, 4, none⟩ = some (.int .i64 t242) := (blk_cell BK243.out 4).trans rfl; have hfz13_0 := blk_frozen BK243.out 0; have hfz13_1 := blk_frozen BK243.out 1; have hfz13_2 := blk_frozen BK243.out 2; have hfz13_3 := blk_frozen BK243.out 3; have hfz13_4 := blk_frozen BK243.out 4) | (go_at_call 48; (with_reducible refine (pleatref13_bit.calls t245 t240 t250 _ A4.out).mono ?_); rintro e w' ⟨rfl, ⟨nd, rfl⟩⟩; (try first | exact ⟨rfl, _, World.drewN_drewN _ _ _⟩ | exact ⟨rfl, _, Eq.trans (World.drewN_drewN _ _ _) (congrArg (World.drewN _) (Nat.add_assoc _ _ _))⟩)) | (go_at_call 48; (with_reducible refine (pleatref13_bit.calls t246 t241 t251 _ A5.out).mono ?_); rintro e w' ⟨rfl, ⟨nd, rfl⟩⟩; (try first | exact ⟨rfl, _, World.drewN_drewN _ _ _⟩ | exact ⟨rfl, _, Eq.trans (World.drewN_drewN _ _ _) (congrArg (World.drewN _) (Nat.add_assoc _ _ _))⟩))); try go_wp2_with (first | (go_at_call 15; (with_reducible refine (pleatref02_Decode.calls k a0 t238 t239 t240 t241 t242 _ A2.out).mono ?_); rintro e w6 ⟨rfl, hb⟩; have n0_ := Aside0.mk (below_step (by repeat (first | (with_reducible first | exact HB.out | apply below_alloc | apply pw_below_drewN | apply below_drew1) | exact HB.out)) hb); clear HB; have HB := n0_; clear n0_; (try clear hb); (try clear hb2); (try clear hk); (try clear hi)) | ((with_reducible refine gate_dst (N := 3) rfl ?_); refine box_event ?hg (N := 3) ?hd (cs := #[.int .i8 0, .int .i8 0, .int .i8 0, .int .i8 0, .int .i64 0]) (t := 40) ?hr ?_; (case hd => rfl); (case hg => rfl); (case hr => first | (go_simp; done) | (go_simp; rfl)); intro gb243 hg w7 hbox hb; have n0_ := Aside0.mk (below_step (by repeat (first | (with_reducible first | exact HB.out | apply below_alloc | apply pw_below_drewN | apply below_drew1) | exact HB.out)) hb); have n1_ := Aside0.mk (hbox); have n2_ := Aside0.mk ((by rw [hg]; exact (below_size (by repeat (first | (with_reducible first | exact HB.out | apply below_alloc | apply pw_below_drewN | apply below_drew1) | exact HB.out))) : w.heap.size ≤ gb243)); have n3_ := Aside0.mk ((by rw [hg]; exact (below_size (by repeat (first | (with_reducible first | exact HB.out | apply below_alloc | apply pw_below_drewN | apply below_drew1) | exact HB.out))) : w.heap.size ≤ gb243)); clear HB; have HB := n0_; have BK243 := n1_; have GW243 := n2_; have GE243 := n3_; clear n0_ n1_ n2_ n3_; clear hb hbox hg; have hcz8_0 : w7.cell? ⟨gb243, 0, none⟩ = some (.int .i8 0) := (blk_cell BK243.out 0).trans rfl; have hcz8_1 : w7.cell? ⟨gb243, 1, none⟩ = some (.int .i8 0) := (blk_cell BK243.out 1).trans rfl; have hcz8_2 : w7.cell? ⟨gb243, 2, none⟩ = some (.int .i8 0) := (blk_cell BK243.out 2).trans rfl; have hcz8_3 : w7.cell? ⟨gb243, 3, none⟩ = some (.int .i8 0) := (blk_cell BK243.out 3).trans rfl; have hcz8_4 : w7.cell? ⟨gb243, 4, none⟩ = some (.int .i64 0) := (blk_cell BK243.out 4).trans rfl; have hfz8_0 := blk_frozen BK243.out 0; have hfz8_1 := blk_frozen BK243.out 1; have hfz8_2 := blk_frozen BK243.out 2; have hfz8_3 := blk_frozen BK243.out 3; have hfz8_4 := blk_frozen BK243.out 4) | (go_at_call 24; (with_reducible refine (pleatref02_Has.calls k t238 t244 t245 t246 t247 t248 _ A3.out).mono ?_); rintro e w9 ⟨rfl, hb⟩; have n0_ := Aside0.mk (blk_below (g := gb243) (o := .cells #[.int .i8 t238, .int .i8 t239, .int .i8 t240, .int .i8 t241, .int .i64 t242] 40 (0, 0)) (by (with_reducible repeat (first | refine blk_drewN ?_ _ | refine blk_drew ?_ | refine blk_alloc ?_ _)); refine blk_put (cs := #[.int .i8 t238, .int .i8 t239, .int .i8 t240, .int .i8 t241, .int .i64 0]) ?_ 4 _ rfl; (with_reducible repeat (first | refine blk_drewN ?_ _ | refine blk_drew ?_ | refine blk_alloc ?_ _)); refine blk_put (cs := #[.int .i8 t238, .int .i8 t239, .int .i8 t240, .int .i8 0, .int .i64 0]) ?_ 3 _ rfl; (with_reducible repeat (first | refine blk_drewN ?_ _ | refine blk_drew ?_ | refine blk_alloc ?_ _)); refine blk_put (cs := #[.int .i8 t238, .int .i8 t239, .int .i8 0, .int .i8 0, .int .i64 0]) ?_ 2 _ rfl; (with_reducible repeat (first | refine blk_drewN ?_ _ | refine blk_drew ?_ | refine blk_alloc ?_ _)); refine blk_put (cs := #[.int .i8 t238, .int .i8 0, .int .i8 0, .int .i8 0, .int .i64 0]) ?_ 1 _ rfl; (with_reducible repeat (first | refine blk_drewN ?_ _ | refine blk_drew ?_ | refine blk_alloc ?_ _)); refine blk_put (cs := #[.int .i8 0, .int .i8 0, .int .i8 0, .int .i8 0, .int .i64 0]) ?_ 0 _ rfl; (with_reducible repeat (first | refine blk_drewN ?_ _ | refine blk_drew ?_ | refine blk_alloc ?_ _)); exact BK243.out) hb); have n1_ := Aside0.mk (below_step (by repeat (first | (with_reducible first | exact HB.out | apply below_alloc | apply pw_below_drewN | apply below_drew1 | refine below_set ?_ GE243.out) | exact HB.out)) hb); clear BK243; clear HB; have BK243 := n0_; have HB := n1_; clear n0_ n1_; (try clear hb); (try clear hb2); (try clear hk); (try clear hi)) | ((with_reducible refine gate_dst (N := 4) rfl ?_); refine box_event ?hg (N := 4) ?hd (cs := #[.bool false, .bool false, .bool false, .bool false, .bool false]) (t := 57) ?hr ?_; (case hd => rfl); (case hg => rfl); (case hr => first | (go_simp; done) | (go_simp; rfl)); intro gb249 hg w10 hbox hb; have n0_ := Aside0.mk (blk_below (g := gb243) (o := .cells #[.int .i8 t238, .int .i8 t239, .int .i8 t240, .int .i8 t241, .int .i64 t242] 40 (0, 0)) (by (with_reducible repeat (first | refine blk_drewN ?_ _ | refine blk_drew ?_ | refine blk_alloc ?_ _)); exact BK243.out) hb); have n1_ := Aside0.mk (below_step (by repeat (first | (with_reducible first | exact HB.out | apply below_alloc | apply pw_below_drewN | apply below_drew1 | refine below_set ?_ GE243.out) | exact HB.out)) hb); have n2_ := Aside0.mk (hbox); have n3_ := Aside0.mk ((by rw [hg]; exact (below_size (by repeat (first | (with_reducible first | exact HB.out | apply below_alloc | apply pw_below_drewN | apply below_drew1 | refine below_set ?_ GE243.out) | exact HB.out))) : w.heap.size ≤ gb249)); have n4_ := Aside0.mk ((by rw [hg]; exact (below_size (by repeat (first | (with_reducible first | exact HB.out | apply below_alloc | apply pw_below_drewN | apply below_drew1 | refine below_set ?_ GE243.out) | exact HB.out))) : w.heap.size ≤ gb249)); have n5_ := Aside0.mk ((by rw [hg]; exact Nat.ne_of_lt (blk_lt (g := gb243) (o := .cells #[.int .i8 t238, .int .i8 t239, .int .i8 t240, .int .i8 t241, .int .i64 t242] 40 (0, 0)) (by (with_reducible repeat (first | refine blk_drewN ?_ _ | refine blk_drew ?_ | refine blk_alloc ?_ _)); exact BK243.out)) : gb243 ≠ gb249)); have n6_ := Aside0.mk ((by rw [hg]; exact Nat.ne_of_gt (blk_lt (g := gb243) (o := .cells #[.int .i8 t238, .int .i8 t239, .int .i8 t240, .int .i8 t241, .int .i64 t242] 40 (0, 0)) (by (with_reducible repeat (first | refine blk_drewN ?_ _ | refine blk_drew ?_ | refine blk_alloc ?_ _)); exact BK243.out)) : gb249 ≠ gb243)); clear BK243; clear HB; have BK243 := n0_; have HB := n1_; have BK249 := n2_; have GW249 := n3_; have GE249 := n4_; have NB243_249 := n5_; have NB249_243 := n6_; clear n0_ n1_ n2_ n3_ n4_ n5_ n6_; clear hb hbox hg; have hnb11 := NB249_243.out; have hnc11 := NB243_249.out; have hcz12_0 : w10.cell? ⟨gb249, 0, none⟩ = some (.bool false) := (blk_cell BK249.out 0).trans rfl; have hcz12_1 : w10.cell? ⟨gb249, 1, none⟩ = some (.bool false) := (blk_cell BK249.out 1).trans rfl; have hcz12_2 : w10.cell? ⟨gb249, 2, none⟩ = some (.bool false) := (blk_cell BK249.out 2).trans rfl; have hcz12_3 : w10.cell? ⟨gb249, 3, none⟩ = some (.bool false) := (blk_cell BK249.out 3).trans rfl; have hcz12_4 : w10.cell? ⟨gb249, 4, none⟩ = some (.bool false) := (blk_cell BK249.out 4).trans rfl; have hfz12_0 := blk_frozen BK249.out 0; have hfz12_1 := blk_frozen BK249.out 1; have hfz12_2 := blk_frozen BK249.out 2; have hfz12_3 := blk_frozen BK249.out 3; have hfz12_4 := blk_frozen BK249.out 4; have hcz13_0 : w10.cell? ⟨gb243, 0, none⟩ = some (.int .i8 t238) := (blk_cell BK243.out 0).trans rfl; have hcz13_1 : w10.cell? ⟨gb243, 1, none⟩ = some (.int .i8 t239) := (blk_cell BK243.out 1).trans rfl; have hcz13_2 : w10.cell? ⟨gb243, 2, none⟩ = some (.int .i8 t240) := (blk_cell BK243.out 2).trans rfl; have hcz13_3 : w10.cell? ⟨gb243, 3, none⟩ = some (.int .i8 t241) := (blk_cell BK243.out 3).trans rfl; have hcz13_4 : w10.cell? ⟨gb243, 4, none⟩ = some (.int .i64 t242) := (blk_cell BK243.out 4).trans rfl; have hfz13_0 := blk_frozen BK243.out 0; have hfz13_1 := blk_frozen BK243.out 1; have hfz13_2 := blk_frozen BK243.out 2; have hfz13_3 := blk_frozen BK243.out 3; have hfz13_4 := blk_frozen BK243.out 4) | (go_at_call 48; (with_reducible refine (pleatref13_bit.calls t245 t240 t250 _ A4.out).mono ?_); rintro e w' ⟨rfl, ⟨nd, rfl⟩⟩; (try first | exact ⟨rfl, _, World.drewN_drewN _ _ _⟩ | exact ⟨rfl, _, Eq.trans (World.drewN_drewN _ _ _) (congrArg (World.drewN _) (Nat.add_assoc _ _ _))⟩)) | (go_at_call 48; (with_reducible refine (pleatref13_bit.calls t246 t241 t251 _ A5.out).mono ?_); rintro e w' ⟨rfl, ⟨nd, rfl⟩⟩; (try first | exact ⟨rfl, _, World.drewN_drewN _ _ _⟩ | exact ⟨rfl, _, Eq.trans (World.drewN_drewN _ _ _) (congrArg (World.drewN _) (Nat.add_assoc _ _ _))⟩))))
 go_ret
 exact ⟨by first | rfl | (simp [errW_none, errW_some] <;> rfl) | (simp [*, errW_none, errW_some] <;> rfl), by repeat (first | (with_reducible first | exact HB.out | apply below_alloc | apply pw_below_drewN | apply below_drew1 | refine below_set ?_ GE243.out | refine below_set ?_ GE249.out) | exact HB.out)⟩

end Go.Proofs.Ytidcijicehgfkaa.PK
