/- Parts of a note as a kind of elements; slices.ContainsFunc with Check's second closure; condition: the slice reads as a list. -/
import Derived.Test.YtbncmffifbcbjaaWiB
namespace Go.Proofs.Ytbncmffifbcbjaa.WiD
open Go Go.RowKit Go.Proofs.YtbncmffifbcbjaaW.PrintWords Go.Proofs.Ytbncmffifbcbjaa.K Go.Proofs.Ytbncmffifbcbjaa.Nm Go.Proofs.Ytbncmffifbcbjaa.Hl Go.Proofs.Ytbncmffifbcbjaa.WiB
set_option linter.unusedVariables false
set_option linter.unusedSimpArgs false
structure Pt where
  s : List Int
  len : Int
instance : Inhabited Pt := ⟨⟨[], 0⟩⟩
def Pt.cells (p : Pt) : List Value := nums .u8 p.s ++ [.int .i64 p.len]
structure Pt.Ok (p : Pt) : Prop where
  n : p.s.length = 32
  wf : ∀ x ∈ p.s, (Lit.int .u8 x).wf = true
  l : (Lit.int .i64 p.len).wf = true
theorem Pt.cells_len {p : Pt} (h : p.Ok) : p.cells.length = 33 := by simp [Pt.cells, nums, h.n]
theorem Pt.one (p : Pt) : ∀ u ∈ p.cells, u.oneCell' = true := fun v hv => by
  rcases List.mem_append.1 hv with hv | hv
  · obtain ⟨x, _, rfl⟩ := List.mem_map.1 hv; rfl
  · simp only [List.mem_cons, List.not_mem_nil, or_false] at hv
    subst hv; rfl
theorem Pt.cell {p : Pt} (h : p.Ok) : p.cells[32]? = some (.int .i64 p.len) := by
  have h1 : (nums .u8 p.s).length = 32 := by simp [nums, h.n]
  unfold Pt.cells
  rw [List.getElem?_append_right (by omega), h1]
  rfl
def dPt : Kd Pt := Kd.flatK 33 Pt.Ok Pt.cells (fun _ h => Pt.cells_len h) (fun p _ => p.one)
theorem flat_pt : Flat dPt := Kd.flatK_flat _ _ _ _ _
theorem infoPt : (Try.prog.info? 51).map (fun i => (i.zero, i.size, i.bytes)) = some (some (.agg (List.replicate 32 (Value.int .u8 0) ++ [Value.int .i64 0]).toArray), 33, 40) := by kernel_rfl
theorem infoPtS {n : Nat} (h : n = 33) : (Try.prog.info? 51).map (·.size) = some n := by subst h; kernel_rfl
theorem pt_at {w : World} {A : Option Addr} {n : Nat} {xs : List Pt} (h : dPt.C w A n xs) (i : Nat) (hi : i < n) : ∃ ad, A = some ad ∧ (xs.getD i default).Ok ∧ Hd.RangeA w (ad.add (i * 33)) (xs.getD i default).cells := by
  obtain ⟨ad, had, hc⟩ := h.2.2 (by omega)
  have hl := h.1
  have hx : xs[i]? = some (xs.getD i default) := by
    have : i < xs.length := by omega
    simp [this]
  obtain ⟨cs, h1, ⟨ho, rfl⟩, h3⟩ := hc i _ hx
  exact ⟨ad, had, ho, fun r u hu => by rw [Addr.add_add]; exact h3 r u hu⟩
theorem part_len {w : World} {ad : Addr} {i : Nat} {p : Pt} (ho : p.Ok) (h : Hd.RangeA w (ad.add (i * 33)) p.cells) : w.cell? ⟨(ad.add (i * 33)).block, (ad.add (i * 33)).off + 32, none⟩ = some (.int .i64 p.len) := h 32 _ (Pt.cell ho)
def badP (p : Pt) : Bool := !decide (1 ≤ p.len ∧ p.len ≤ 512)
theorem badp_calls (p : Pt) (ho : p.Ok) (w : World) : Calls Try.prog 21 #[.agg p.cells.toArray] w fun e w' => e = .returned (.bool (badP p)) ∧ Below w.heap.size w w' := by
  have hblk := heap_alloc_new w (.cells p.cells.toArray 51)
  have c32 := obj_cell (v := .int .i64 p.len) hblk 32 (by simpa using Pt.cell ho)
  have HB := Aside0.mk (below_alloc (Below.refl w.heap.size w) (.cells p.cells.toArray 51))
  clear hblk ho
  generalize p.cells.toArray = D at *
  generalize hw1 : w.alloc (.cells D 51) = w1 at *
  by_cases z1 : p.len < 1
  · have g1 : decide (p.len < 1) = true := decide_eq_true z1
    rw [show badP p = true from by unfold badP; rw [decide_eq_false (by omega)]; rfl]
    go_enter Try.func21, Try.ntmps21
    go_wp2
    go_ret
    exact ⟨rfl, HB.out⟩
  · have g1 : decide (p.len < 1) = false := decide_eq_false z1
    by_cases z2 : 512 < p.len
    · have g2 : decide (512 < p.len) = true := decide_eq_true z2
      rw [show badP p = true from by unfold badP; rw [decide_eq_false (by omega)]; rfl]
      go_enter Try.func21, Try.ntmps21
      go_wp2
      go_ret
      exact ⟨rfl, HB.out⟩
    · have g2 : decide (512 < p.len) = false := decide_eq_false z2
      rw [show badP p = false from by unfold badP; rw [decide_eq_true (by omega)]; rfl]
      go_enter Try.func21, Try.ntmps21
      go_wp2
      go_ret
      exact ⟨rfl, HB.out⟩
set_option maxHeartbeats 1000000 in
theorem indexP_calls (A : Option Addr) (n c : Nat) (hs : List Pt) (w : World) (h : dPt.C w A n hs) :
    Calls Try.prog 40 #[.slice A n c, .func (.func 21) #[] #[]] w fun e w' => e = .returned (.int .i64 (idxP badP hs 0)) ∧ Below w.heap.size w w' := by
  have eg : ∀ args w, (callFunc 21 args).run Try.prog w = .ok (.enter 21 args) w := enters_of Try.func21 (by kernel_rfl) rfl
  have H := Aside0.mk h
  have HU := Aside0.mk Try.underlying51
  have hn := h.2.1
  have hl := h.1
  clear h
  go_enter Try.func40, Try.ntmps40
  go_wp2
  go_loopg [8] (n + 1) (fun gk v8 wr => ∃ i : Nat, v8 = .int .i64 i ∧ i ≤ n ∧ Aside0 (gk = n - i + 1) ∧ Aside0 (idxP badP hs 0 = idxP badP (hs.drop i) i) ∧ Aside0 (Below w.heap.size w wr))
  case atStart => exact ⟨0, rfl, Nat.zero_le _, ⟨rfl⟩, ⟨by rw [List.drop_zero]⟩, ⟨Below.refl _ _⟩⟩
  case round =>
    obtain ⟨i, rfl, hi, HG, HAT, HB⟩ := hrel
    by_cases hlt : i < n
    · have h1 : decide ((i : Int) < (n : Int)) = true := by simp; omega
      have hp1 : (0 : Int) ≤ (i : Int) := by omega
      have hp2 : (i : Int) < (n : Int) := by omega
      obtain ⟨ad, rfl, hok, hra⟩ := pt_at (Kd.C_below H.out HB.out) i hlt
      have hd : hs.drop i = hs.getD i default :: hs.drop (i + 1) := by
        rw [List.drop_eq_getElem_cons (by omega)]
        simp [show i < hs.length from by omega]
      have HAT2 := Aside0.mk (show idxP badP hs 0 = if badP (hs.getD i default) = true then (i : Int) else idxP badP (hs.drop (i + 1)) (i + 1) from HAT.out.trans (by rw [hd]; rfl))
      clear hd HAT
      generalize hs.getD i default = k at *
      have HCL := Aside0.mk (badp_calls k hok wr)
      have HRA := Aside0.mk hra
      have HI := Aside0.mk (infoPtS (Pt.cells_len hok))
      clear hok hra
      generalize k.cells = C at *
      cases he : badP k with
      | true =>
        have hat := HAT2.out
        rw [he, if_pos rfl] at hat
        have HAT3 := Aside0.mk hat
        rw [he] at HCL
        clear hat HAT2 he
        go_wp2_with (first
          | ((with_reducible refine gate_ (.load 51 (.tmp 14)) rfl ?_); refine Hd.wpList_load_any rfl _ (.tmp 14) rfl _ rfl C _ HRA.out HU.out rfl HI.out ?_)
          | (go_at_call 21; (with_reducible refine (HCL.out).mono ?_); rintro e w' ⟨rfl, hb4⟩; have HB4 := Aside0.mk (below_then HB.out HB.out.size hb4); clear hb4))
        go_ret
        exact ⟨by rw [HAT3.out]; rfl, HB4.out⟩
      | false =>
        have hat := HAT2.out
        rw [he, if_neg (by simp)] at hat
        have HAT3 := Aside0.mk hat
        rw [he] at HCL
        clear hat HAT2 he
        go_wp2_with (first
          | ((with_reducible refine gate_ (.load 51 (.tmp 14)) rfl ?_); refine Hd.wpList_load_any rfl _ (.tmp 14) rfl _ rfl C _ HRA.out HU.out rfl HI.out ?_)
          | (go_at_call 21; (with_reducible refine (HCL.out).mono ?_); rintro e w' ⟨rfl, hb4⟩; have HB4 := Aside0.mk (below_then HB.out HB.out.size hb4); clear hb4))
        go_roundg (n - (i + 1) + 1)
        case measure => have := HG.out; omega
        case rel => exact ⟨i + 1, by go_num, by omega, ⟨rfl⟩, HAT3, HB4⟩
    · obtain rfl : i = n := by omega
      have h1 : decide ((i : Int) < (i : Int)) = false := by simp
      have HAT2 := Aside0.mk (show idxP badP hs 0 = -1 by rw [HAT.out, List.drop_of_length_le (by omega)]; rfl)
      clear HAT
      go_wp2
      go_ret
      exact ⟨by rw [HAT2.out]; rfl, HB.out⟩
theorem containsP_calls (A : Option Addr) (n c : Nat) (hs : List Pt) (w : World) (h : dPt.C w A n hs) :
    Calls Try.prog 20 #[.slice A n c, .func (.func 21) #[] #[]] w fun e w' => e = .returned (.bool (hs.any badP)) ∧ Below w.heap.size w w' := by
  have HI := Aside0.mk (indexP_calls A n c hs w h)
  have hh := idxP_any badP hs 0
  clear h
  go_enter Try.func20, Try.ntmps20
  go_wp2_with (go_at_call 40; (with_reducible refine (HI.out).mono ?_); rintro e w' ⟨rfl, hb4⟩; have HB4 := Aside0.mk hb4; clear hb4)
  go_ret
  exact ⟨rfl, HB4.out⟩
end Go.Proofs.Ytbncmffifbcbjaa.WiD
