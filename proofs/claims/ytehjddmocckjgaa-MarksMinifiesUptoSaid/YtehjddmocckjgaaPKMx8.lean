-- Written by a program (myprint.py, over the kit's print) for this claim. Not trusted: Lean checks it.
import Derived.Test.YtehjddmocckjgaaMh
import Derived.Test.YtehjddmocckjgaaPKMx0
import Derived.Test.YtehjddmocckjgaaPKMx5
import Derived.Test.YtehjddmocckjgaaPKMx7
namespace Go.Proofs.Ytehjddmocckjgaa.PKM
attribute [local go_sem] Go.Proofs.YtehjddmocckjgaaM.fieldBits0 Go.Proofs.YtehjddmocckjgaaM.fieldBits1
open Go.RowKit Go.Proofs.YtehjddmocckjgaaW.PrintWords Go.Proofs.YtehjddmocckjgaaW.PrintLast Go.Proofs.YtehjddmocckjgaaW.PrintMore
attribute [local go_sem] max2_int min2_int max_two min_two max_three min_three max_four min_four   -- for this text's walks alone
set_option linter.unusedVariables false
set_option linter.unusedSimpArgs false

/-! ### quarrylaw08_MarksMinifies: function 5 -/
def quarrylaw08_MarksMinifies.f (k : Nat) (a0 : ByteArray) : Option (Bool) := (marks_Minify.f k (⟨#[123, 34, 97, 32, 98, 34, 32, 58, 32, 91, 49, 44, 116, 114, 117, 101, 93, 125]⟩ : ByteArray)).bind fun t202 => (if t202.toList = ([123, 34, 97, 32, 98, 34, 58, 91, 49, 44, 116, 114, 117, 101, 93, 125] : List UInt8) then ((marks_Minify.f k a0).bind fun t203 => ((quarryref08_Minify.f k a0).bind fun t204 => (some (t203.toList == t204.toList)))) else (some false))
theorem quarrylaw08_MarksMinifies.mono : ∀ a0 k, LeO (quarrylaw08_MarksMinifies.f k a0) (quarrylaw08_MarksMinifies.f (k + 1) a0) := by
  intro a0 k
  unfold quarrylaw08_MarksMinifies.f
  repeat' first
      | (with_reducible exact marks_Minify.mono _ _)
      | (with_reducible exact quarryref08_Minify.mono _ _)
      | (with_reducible exact LeO.refl _)
      | (with_reducible exact LeO.none _)
      | (with_reducible refine LeO.ite ?_ ?_)
      | (with_reducible refine LeO.bind ?_ (fun _ => ?_))
      | exact marks_Minify.mono _ _
      | exact quarryref08_Minify.mono _ _
      | exact LeO.none _
      | refine LeO.ite ?_ ?_
      | refine LeO.bind ?_ (fun _ => ?_)
set_option maxHeartbeats 8000000 in
set_option maxRecDepth 100000 in
theorem quarrylaw08_MarksMinifies.calls (k : Nat) (a0 : ByteArray) (r : Bool) (w : World) (h : quarrylaw08_MarksMinifies.f k a0 = some r) :
    Calls Try.prog 5 #[.string a0] w fun e w' => e = .returned (.bool r) ∧ Below w.heap.size w w' := by
  have HB := Aside0.mk (Below.refl w.heap.size w)
  have H : ((marks_Minify.f k (⟨#[123, 34, 97, 32, 98, 34, 32, 58, 32, 91, 49, 44, 116, 114, 117, 101, 93, 125]⟩ : ByteArray)).bind fun t202 => (if t202.toList = ([123, 34, 97, 32, 98, 34, 58, 91, 49, 44, 116, 114, 117, 101, 93, 125] : List UInt8) then ((marks_Minify.f k a0).bind fun t203 => ((quarryref08_Minify.f k a0).bind fun t204 => (some (t203.toList == t204.toList)))) else (some false))) = some r := h
  clear h
  replace H := Option.bind_eq_some_iff.mp H
  obtain ⟨t202, A20, H⟩ := H
  replace H : (if t202.toList = ([123, 34, 97, 32, 98, 34, 58, 91, 49, 44, 116, 114, 117, 101, 93, 125] : List UInt8) then ((marks_Minify.f k a0).bind fun t203 => ((quarryref08_Minify.f k a0).bind fun t204 => (some (t203.toList == t204.toList)))) else (some false)) = some r := H
  have A2 := Aside0.mk A20
  clear A20
  by_cases c3 : t202.toList = ([123, 34, 97, 32, 98, 34, 58, 91, 49, 44, 116, 114, 117, 101, 93, 125] : List UInt8)
  · rw [if_pos c3] at H
    have c3b0 : (t202.toList == ([123, 34, 97, 32, 98, 34, 58, 91, 49, 44, 116, 114, 117, 101, 93, 125] : List UInt8)) = true := beq_iff_eq.mpr c3
    have c3b1 : (t202.toList != ([123, 34, 97, 32, 98, 34, 58, 91, 49, 44, 116, 114, 117, 101, 93, 125] : List UInt8)) = false := bne_eq_false_iff_eq.mpr c3
    clear c3
    replace H := Option.bind_eq_some_iff.mp H
    obtain ⟨t203, A40, H⟩ := H
    replace H : ((quarryref08_Minify.f k a0).bind fun t204 => (some (t203.toList == t204.toList))) = some r := H
    have A4 := Aside0.mk A40
    clear A40
    replace H := Option.bind_eq_some_iff.mp H
    obtain ⟨t204, A50, H⟩ := H
    replace H : (some (t203.toList == t204.toList)) = some r := H
    have A5 := Aside0.mk A50
    clear A50
    obtain rfl := Option.some.inj H
    go_enter Try.func5, Try.ntmps5
    go_wp2_with (first | ((with_reducible refine gate_callee (f := 11) rfl ?_); refine goesL_ (some 3) rfl rfl Try.func11 (by kernel_rfl) rfl #[.string (⟨#[123, 34, 97, 32, 98, 34, 32, 58, 32, 91, 49, 44, 116, 114, 117, 101, 93, 125]⟩ : ByteArray)] rfl (by (try simp only [List.map_toArray, List.map_cons, List.map_nil]); first | done | rfl | (simp only [List.length_drop, List.length_take]; rfl)) ?_; (with_reducible refine (marks_Minify.calls k (⟨#[123, 34, 97, 32, 98, 34, 32, 58, 32, 91, 49, 44, 116, 114, 117, 101, 93, 125]⟩ : ByteArray) t202 _ A2.out).mono ?_); rintro e w6 ⟨rfl, hb⟩; refine ⟨_, rfl, ?_⟩; have n0_ := Aside0.mk (below_step (by repeat (first | (with_reducible first | exact HB.out | apply below_alloc | apply pw_below_drewN | apply below_drew1) | exact HB.out)) hb); clear HB; have HB := n0_; clear n0_; (try clear hb); (try clear hb2); (try clear hk); (try clear hi)) | (go_at_call 11; (with_reducible refine (marks_Minify.calls k a0 t203 _ A4.out).mono ?_); rintro e w7 ⟨rfl, hb⟩; have n0_ := Aside0.mk (below_step (by repeat (first | (with_reducible first | exact HB.out | apply below_alloc | apply pw_below_drewN | apply below_drew1) | exact HB.out)) hb); clear HB; have HB := n0_; clear n0_; (try clear hb); (try clear hb2); (try clear hk); (try clear hi)) | (go_at_call 12; (with_reducible refine (quarryref08_Minify.calls k a0 t204 _ A5.out).mono ?_); rintro e w8 ⟨rfl, hb⟩; have n0_ := Aside0.mk (below_step (by repeat (first | (with_reducible first | exact HB.out | apply below_alloc | apply pw_below_drewN | apply below_drew1) | exact HB.out)) hb); clear HB; have HB := n0_; clear n0_; (try clear hb); (try clear hb2); (try clear hk); (try clear hi)))
    go_ret
    exact ⟨by first | rfl | (simp [errW_none, errW_some] <;> rfl) | (simp [*, errW_none, errW_some] <;> rfl), by repeat (first | (with_reducible first | exact HB.out | apply below_alloc | apply pw_below_drewN | apply below_drew1) | exact HB.out)⟩
  · rw [if_neg c3] at H
    have c3b0 : (t202.toList == ([123, 34, 97, 32, 98, 34, 58, 91, 49, 44, 116, 114, 117, 101, 93, 125] : List UInt8)) = false := beq_eq_false_iff_ne.mpr c3
    have c3b1 : (t202.toList != ([123, 34, 97, 32, 98, 34, 58, 91, 49, 44, 116, 114, 117, 101, 93, 125] : List UInt8)) = true := bne_iff_ne.mpr c3
    obtain rfl := Option.some.inj H
    go_enter Try.func5, Try.ntmps5
    go_wp2_with (first | ((with_reducible refine gate_callee (f := 11) rfl ?_); refine goesL_ (some 3) rfl rfl Try.func11 (by kernel_rfl) rfl #[.string (⟨#[123, 34, 97, 32, 98, 34, 32, 58, 32, 91, 49, 44, 116, 114, 117, 101, 93, 125]⟩ : ByteArray)] rfl (by (try simp only [List.map_toArray, List.map_cons, List.map_nil]); first | done | rfl | (simp only [List.length_drop, List.length_take]; rfl)) ?_; (with_reducible refine (marks_Minify.calls k (⟨#[123, 34, 97, 32, 98, 34, 32, 58, 32, 91, 49, 44, 116, 114, 117, 101, 93, 125]⟩ : ByteArray) t202 _ A2.out).mono ?_); rintro e w9 ⟨rfl, hb⟩; refine ⟨_, rfl, ?_⟩; have n0_ := Aside0.mk (below_step (by repeat (first | (with_reducible first | exact HB.out | apply below_alloc | apply pw_below_drewN | apply below_drew1) | exact HB.out)) hb); clear HB; have HB := n0_; clear n0_; (try clear hb); (try clear hb2); (try clear hk); (try clear hi)))
    go_ret
    exact ⟨by first | rfl | (simp [errW_none, errW_some] <;> rfl) | (simp [*, errW_none, errW_some] <;> rfl), by repeat (first | (with_reducible first | exact HB.out | apply below_alloc | apply pw_below_drewN | apply below_drew1) | exact HB.out)⟩

/-- THE ONE PURE STATEMENT of quarrylaw08_MarksMinifies: yours. -/
def quarrylaw08_MarksMinifies.Pure : Prop := ∀ (a0 : ByteArray), a0.size ≤ 140737488351232 → ∃ k, quarrylaw08_MarksMinifies.f k a0 = some true
theorem quarrylaw08_MarksMinifies.walk (P : quarrylaw08_MarksMinifies.Pure) (a0 : ByteArray) (w : World) (w0 : a0.size ≤ 140737488351232) :
    Calls Try.prog 5 #[.string a0] w fun e w' => e = .returned (.bool true) ∧ Below w.heap.size w w' := by
  obtain ⟨k, h⟩ := P a0 w0
  refine (quarrylaw08_MarksMinifies.calls k a0 true w h).mono ?_
  rintro e w' ⟨rfl, hd⟩
  exact ⟨rfl, hd⟩

end Go.Proofs.Ytehjddmocckjgaa.PKM
