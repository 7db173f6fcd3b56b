/- What wire's file, and slices.ContainsFunc with Check's closures compute; condition: the slices read as lists. -/
import Derived.Test.YtbncmffifbcbjaaHl
import Derived.Shelf.Abstract
namespace Go.Proofs.Ytbncmffifbcbjaa.WiB
open Go Go.RowKit Go.Proofs.YtbncmffifbcbjaaW.PrintWords Go.Proofs.Ytbncmffifbcbjaa.K Go.Proofs.Ytbncmffifbcbjaa.Nm Go.Proofs.Ytbncmffifbcbjaa.Hl
set_option linter.unusedVariables false
set_option linter.unusedSimpArgs false
theorem file_calls (s : ByteArray) (hm : s.size ≤ 9223372036854775807) (g : Int) (w : World) : Calls Try.prog 17 #[.string s, .int .i64 g] w fun e w' => e = .returned (.bool (decide (fileOk s g))) ∧ w = w' := by
  have HN := Aside0.mk (name_calls s hm w)
  by_cases z1 : NameOk s
  · rw [decide_eq_true z1] at HN
    by_cases z2 : 1 ≤ g
    · have g2 : decide (1 ≤ g) = true := decide_eq_true z2
      by_cases z3 : g ≤ 9007199254740991
      · have g3 : decide (g ≤ 9007199254740991) = true := decide_eq_true z3
        rw [show decide (fileOk s g) = true from decide_eq_true ⟨z1, z2, z3⟩]
        go_enter Try.func17, Try.ntmps17
        go_wp2_with (go_at_call 38; (with_reducible refine (HN.out).mono ?_); rintro e w' ⟨rfl, rfl⟩)
        go_ret
        exact ⟨rfl, rfl⟩
      · have g3 : decide (g ≤ 9007199254740991) = false := decide_eq_false z3
        rw [show decide (fileOk s g) = false from decide_eq_false (fun h => z3 h.2.2)]
        go_enter Try.func17, Try.ntmps17
        go_wp2_with (go_at_call 38; (with_reducible refine (HN.out).mono ?_); rintro e w' ⟨rfl, rfl⟩)
        go_ret
        exact ⟨rfl, rfl⟩
    · have g2 : decide (1 ≤ g) = false := decide_eq_false z2
      rw [show decide (fileOk s g) = false from decide_eq_false (fun h => z2 h.2.1)]
      go_enter Try.func17, Try.ntmps17
      go_wp2_with (go_at_call 38; (with_reducible refine (HN.out).mono ?_); rintro e w' ⟨rfl, rfl⟩)
      go_ret
      exact ⟨rfl, rfl⟩
  · rw [decide_eq_false z1] at HN
    rw [show decide (fileOk s g) = false from decide_eq_false (fun h => z1 h.1)]
    go_enter Try.func17, Try.ntmps17
    go_wp2_with (go_at_call 38; (with_reducible refine (HN.out).mono ?_); rintro e w' ⟨rfl, rfl⟩)
    go_ret
    exact ⟨rfl, rfl⟩
theorem rfile_calls (s : ByteArray) (hm : s.size ≤ 9223372036854775807) (g : Int) (w : World) : Calls Try.prog 24 #[.string s, .int .i64 g] w fun e w' => e = .returned (.bool (decide (fileOk s g))) ∧ w = w' := by
  have HN := Aside0.mk (rname_calls s hm w)
  by_cases z1 : NameOk s
  · rw [decide_eq_true z1] at HN
    by_cases z2 : 1 ≤ g
    · have g2 : decide (1 ≤ g) = true := decide_eq_true z2
      by_cases z3 : g ≤ 9007199254740991
      · have g3 : decide (g ≤ 9007199254740991) = true := decide_eq_true z3
        rw [show decide (fileOk s g) = true from decide_eq_true ⟨z1, z2, z3⟩]
        go_enter Try.func24, Try.ntmps24
        go_wp2_with (go_at_call 41; (with_reducible refine (HN.out).mono ?_); rintro e w' ⟨rfl, rfl⟩)
        go_ret
        exact ⟨rfl, rfl⟩
      · have g3 : decide (g ≤ 9007199254740991) = false := decide_eq_false z3
        rw [show decide (fileOk s g) = false from decide_eq_false (fun h => z3 h.2.2)]
        go_enter Try.func24, Try.ntmps24
        go_wp2_with (go_at_call 41; (with_reducible refine (HN.out).mono ?_); rintro e w' ⟨rfl, rfl⟩)
        go_ret
        exact ⟨rfl, rfl⟩
    · have g2 : decide (1 ≤ g) = false := decide_eq_false z2
      rw [show decide (fileOk s g) = false from decide_eq_false (fun h => z2 h.2.1)]
      go_enter Try.func24, Try.ntmps24
      go_wp2_with (go_at_call 41; (with_reducible refine (HN.out).mono ?_); rintro e w' ⟨rfl, rfl⟩)
      go_ret
      exact ⟨rfl, rfl⟩
  · rw [decide_eq_false z1] at HN
    rw [show decide (fileOk s g) = false from decide_eq_false (fun h => z1 h.1)]
    go_enter Try.func24, Try.ntmps24
    go_wp2_with (go_at_call 41; (with_reducible refine (HN.out).mono ?_); rintro e w' ⟨rfl, rfl⟩)
    go_ret
    exact ⟨rfl, rfl⟩
def badH (h : Hl) : Bool := !decide (fileOk h.name h.gen)
theorem bad_calls (h : Hl) (ho : h.Ok) (w : World) : Calls Try.prog 19 #[.agg #[.string h.name, .int .i64 h.gen]] w fun e w' => e = .returned (.bool (badH h)) ∧ Below w.heap.size w w' := by
  have HF := Aside0.mk (fun W => file_calls h.name ho.n h.gen W)
  have HB := Aside0.mk (below_alloc (Below.refl w.heap.size w) (.cells #[.string h.name, .int .i64 h.gen] 46))
  clear ho
  obtain ⟨nm, g⟩ := h
  simp only at *
  unfold badH
  simp only
  generalize decide (fileOk nm g) = b at *
  go_enter Try.func19, Try.ntmps19
  go_wp2_with (go_at_call 17; (with_reducible refine (HF.out _).mono ?_); rintro e w' ⟨rfl, rfl⟩)
  go_ret
  exact ⟨rfl, HB.out⟩
set_option maxHeartbeats 1000000 in
theorem indexH_calls (A : Option Addr) (n c : Nat) (hs : List Hl) (w : World) (h : dHl.C w A n hs) :
    Calls Try.prog 39 #[.slice A n c, .func (.func 19) #[] #[]] w fun e w' => e = .returned (.int .i64 (idxP badH hs 0)) ∧ Below w.heap.size w w' := by
  have eg : ∀ args w, (callFunc 19 args).run Try.prog w = .ok (.enter 19 args) w := enters_of Try.func19 (by kernel_rfl) rfl
  have H := Aside0.mk h
  have hn := h.2.1
  have hl := h.1
  clear h
  go_enter Try.func39, Try.ntmps39
  go_wp2
  go_loopg [8] (n + 1) (fun gk v8 wr => ∃ i : Nat, v8 = .int .i64 i ∧ i ≤ n ∧ Aside0 (gk = n - i + 1) ∧ Aside0 (idxP badH hs 0 = idxP badH (hs.drop i) i) ∧ Aside0 (Below w.heap.size w wr))
  case atStart => exact ⟨0, rfl, Nat.zero_le _, ⟨rfl⟩, ⟨by rw [List.drop_zero]⟩, ⟨Below.refl _ _⟩⟩
  case round =>
    obtain ⟨i, rfl, hi, HG, HAT, HB⟩ := hrel
    by_cases hlt : i < n
    · have h1 : decide ((i : Int) < (n : Int)) = true := by simp; omega
      have hp1 : (0 : Int) ≤ (i : Int) := by omega
      have hp2 : (i : Int) < (n : Int) := by omega
      obtain ⟨ad, rfl, hok, b0, b1⟩ := hl_at (Kd.C_below H.out HB.out) i hlt
      have hd : hs.drop i = hs.getD i default :: hs.drop (i + 1) := by
        rw [List.drop_eq_getElem_cons (by omega)]
        simp [show i < hs.length from by omega]
      have HAT2 := Aside0.mk (show idxP badH hs 0 = if badH (hs.getD i default) = true then (i : Int) else idxP badH (hs.drop (i + 1)) (i + 1) from HAT.out.trans (by rw [hd]; rfl))
      clear hd HAT
      generalize hs.getD i default = k at *
      have HCL := Aside0.mk (bad_calls k hok wr)
      clear hok
      cases he : badH k with
      | true =>
        have hat := HAT2.out
        rw [he, if_pos rfl] at hat
        have HAT3 := Aside0.mk hat
        rw [he] at HCL
        clear hat HAT2 he
        obtain ⟨nm, g⟩ := k
        simp only at *
        go_wp2_with (go_at_call 19; (with_reducible refine (HCL.out).mono ?_); rintro e w' ⟨rfl, hb4⟩; have HB4 := Aside0.mk (below_then HB.out HB.out.size hb4); clear hb4)
        go_ret
        exact ⟨by rw [HAT3.out]; rfl, HB4.out⟩
      | false =>
        have hat := HAT2.out
        rw [he, if_neg (by simp)] at hat
        have HAT3 := Aside0.mk hat
        rw [he] at HCL
        clear hat HAT2 he
        obtain ⟨nm, g⟩ := k
        simp only at *
        go_wp2_with (go_at_call 19; (with_reducible refine (HCL.out).mono ?_); rintro e w' ⟨rfl, hb4⟩; have HB4 := Aside0.mk (below_then HB.out HB.out.size hb4); clear hb4)
        go_roundg (n - (i + 1) + 1)
        case measure => have := HG.out; omega
        case rel => exact ⟨i + 1, by go_num, by omega, ⟨rfl⟩, HAT3, HB4⟩
    · obtain rfl : i = n := by omega
      have h1 : decide ((i : Int) < (i : Int)) = false := by simp
      have HAT2 := Aside0.mk (show idxP badH hs 0 = -1 by rw [HAT.out, List.drop_of_length_le (by omega)]; rfl)
      clear HAT
      go_wp2
      go_ret
      exact ⟨by rw [HAT2.out]; rfl, HB.out⟩
theorem containsH_calls (A : Option Addr) (n c : Nat) (hs : List Hl) (w : World) (h : dHl.C w A n hs) :
    Calls Try.prog 18 #[.slice A n c, .func (.func 19) #[] #[]] w fun e w' => e = .returned (.bool (hs.any badH)) ∧ Below w.heap.size w w' := by
  have HI := Aside0.mk (indexH_calls A n c hs w h)
  have hh := idxP_any badH hs 0
  clear h
  go_enter Try.func18, Try.ntmps18
  go_wp2_with (go_at_call 39; (with_reducible refine (HI.out).mono ?_); rintro e w' ⟨rfl, hb4⟩; have HB4 := Aside0.mk hb4; clear hb4)
  go_ret
  exact ⟨rfl, HB4.out⟩
end Go.Proofs.Ytbncmffifbcbjaa.WiB
