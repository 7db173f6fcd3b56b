/- Lists of numbers as elements (descriptors), told by a reading; the reference's in and votes; condition: few lists, each short. -/
import Derived.Test.YtkobolgbmfhpgaaSgC
namespace Go.Proofs.Ytkobolgbmfhpgaa.SgL
open Go Go.RowKit Go.Proofs.YtkobolgbmfhpgaaW.PrintWords Go.Proofs.Ytkobolgbmfhpgaa.K Go.Proofs.Ytkobolgbmfhpgaa.SgC
set_option linter.unusedVariables false
set_option linter.unusedSimpArgs false
structure Ds where
  a : Option Addr
  n : Nat
  c : Nat
instance : Inhabited Ds := ⟨⟨none, 0, 0⟩⟩
def Ds.cells (d : Ds) : List Value := [.slice d.a d.n d.c]
def dSl : Kd Ds := Kd.flatK 1 (fun _ => True) Ds.cells (fun _ _ => rfl) (fun x _ u hu => by
  simp [Ds.cells] at hu
  subst hu; rfl)
theorem flat_sl : Flat dSl := Kd.flatK_flat _ _ _ _ _
theorem infoSl : (Try.prog.info? 24).map (fun i => (i.zero, i.size, i.bytes)) = some (some (.slice none 0 0), 1, 24) := by kernel_rfl
/-- A descriptor's numbers. -/
structure TL (w : World) (d : Ds) (l : List Int) : Prop where
  row : (Kd.int .i64).C w d.a d.n l
  cap : d.n ≤ d.c
  wf : ∀ x ∈ l, (Lit.int .i64 x).wf = true
  few : d.n ≤ 12
theorem TL.below {w w1 : World} {d : Ds} {l : List Int} (h : TL w d l) (hb : Below w.heap.size w w1) : TL w1 d l := ⟨Kd.C_below h.row hb, h.cap, h.wf, h.few⟩
theorem TL.lower {w w1 : World} {d : Ds} {l : List Int} {b : Nat} (h : TL w d l) (hb : Below b w w1) (hs : w.heap.size ≤ b) : TL w1 d l := h.below (hb.mono hs)
theorem TL.one {w : World} {d : Ds} {l m : List Int} (h : TL w d l) (g : TL w d m) : l = m := by
  have hl := h.row.1
  have hm := g.row.1
  refine List.ext_getElem (hl.trans hm.symm) (fun j h1 h2 => ?_)
  obtain ⟨ad, had, hc⟩ := h.row.2.2 (by omega)
  obtain ⟨ad', had', hc'⟩ := g.row.2.2 (by omega)
  rw [had] at had'
  injection had' with e
  subst e
  obtain ⟨cs, e1, e2, e3⟩ := hc j _ (List.getElem?_eq_getElem h1)
  obtain ⟨cs', e1', e2', e3'⟩ := hc' j _ (List.getElem?_eq_getElem h2)
  obtain rfl : cs = [.int .i64 l[j]] := e2
  obtain rfl : cs' = [.int .i64 m[j]] := e2'
  have x1 := e3 0 _ rfl
  have x2 := e3' 0 _ rfl
  rw [x1] at x2
  injection x2 with x2
  injection x2
/-- Descriptors, their lists told by f. -/
def Tls (w : World) (f : Ds → List Int) (ds : List Ds) : Prop := ∀ d ∈ ds, TL w d (f d)
theorem Tls.below {w w1 : World} {f : Ds → List Int} {ds : List Ds} {b : Nat} (h : Tls w f ds) (hb : Below b w w1) (hs : w.heap.size ≤ b) : Tls w1 f ds := fun d hd => (h d hd).lower hb hs
/-- The reading itself. -/
noncomputable def rdL (w : World) (d : Ds) : List Int := open Classical in if h : ∃ l, TL w d l then Classical.choose h else []
theorem rdL_is {w : World} {d : Ds} {l : List Int} (h : TL w d l) : rdL w d = l := by
  unfold rdL
  rw [dif_pos ⟨l, h⟩]
  exact (Classical.choose_spec (⟨l, h⟩ : ∃ l, TL w d l)).one h
theorem rdL_tl {w : World} {d : Ds} {l : List Int} (h : TL w d l) : TL w d (rdL w d) := by rw [rdL_is h]; exact h
/-- One descriptor of a row. -/
theorem at_sl {w : World} {A : Option Addr} {k : Nat} {ds : List Ds} (h : dSl.C w A k ds) (i : Nat) (hi : i < k) : ∃ ad, A = some ad ∧ w.cell? (ad.add i) = some (.slice (ds.getD i default).a (ds.getD i default).n (ds.getD i default).c) := by
  have hl : ds.length = k := h.1
  obtain ⟨ad, had, hc⟩ := h.2.2 (by omega)
  obtain ⟨cs, e1, e2, e3⟩ := hc i _ (List.getElem?_eq_getElem (by omega))
  obtain ⟨_, rfl⟩ := e2
  have x1 := e3 0 _ rfl
  refine ⟨ad, had, ?_⟩
  rw [show ds.getD i default = ds[i]'(by omega) from by simp [show i < ds.length by omega]]
  rw [← x1]
  congr 2
  show i = i * 1 + 0
  omega
theorem in_calls (A : Option Addr) (k c : Nat) (l : List Int) (n : Int) (w : World) (h : (Kd.int .i64).C w A k l) :
    Calls Try.prog 32 #[.slice A k c, .int .i64 n] w fun e w' => e = .returned (.bool (decide (n ∈ l))) ∧ Below w.heap.size w w' := by
  have H := Aside0.mk h
  have hkm := h.2.1
  have hl := h.1
  clear h
  go_enter Try.func32, Try.ntmps32
  go_wp2
  go_loopg [5] (k + 1) (fun gk v5 wr => ∃ i : Nat, v5 = .int .i64 i ∧ i ≤ k ∧ Aside0 (gk = k - i + 1) ∧ Aside0 (n ∉ l.take i) ∧ Aside0 (Below w.heap.size w wr))
  case atStart => exact ⟨0, rfl, Nat.zero_le _, ⟨rfl⟩, ⟨by simp⟩, ⟨Below.refl _ _⟩⟩
  case round =>
    obtain ⟨i, rfl, hi, HG, HN, HB⟩ := hrel
    by_cases hlt : i < k
    · have h1 : decide ((i : Int) < (k : Int)) = true := by simp; omega
      have hp1 : (0 : Int) ≤ (i : Int) := by omega
      have hp2 : (i : Int) < (k : Int) := by omega
      obtain ⟨ad, rfl, hc⟩ := Kd.at_int (Kd.C_below H.out HB.out) (i : Int) hp1 hp2
      rw [Int.toNat_natCast] at hc
      have ht : l.take (i + 1) = l.take i ++ [l.getD i 0] := by
        rw [List.take_add_one]
        simp [show i < l.length from by omega]
      have hm : l.getD i 0 ∈ l := by
        rw [show l.getD i 0 = l[i]'(by omega) from by simp [show i < l.length by omega]]
        exact List.getElem_mem _
      have hx : rd l (i : Int) = l.getD i 0 := rfl
      rw [hx] at hc
      generalize l.getD i 0 = x at *
      have HT := Aside0.mk ht
      clear hx ht
      by_cases he : n = x
      · subst he
        have HM := Aside0.mk hm
        clear hm
        have hee : (n == n) = true := by simp
        go_wp2
        go_ret
        exact ⟨by rw [decide_eq_true HM.out]; rfl, (by repeat (first | (with_reducible first | exact HB.out | apply below_alloc | apply pw_below_drewN | apply below_drew1) | exact HB.out))⟩
      · have hee : (x == n) = false := by simpa using fun e => he e.symm
        have HE := Aside0.mk he
        clear he hm
        go_wp2
        go_roundg (k - (i + 1) + 1)
        case measure => have := HG.out; omega
        case rel => exact ⟨i + 1, by go_num, by omega, ⟨rfl⟩, ⟨by rw [HT.out]; simp [HE.out]; exact HN.out⟩, ⟨(by repeat (first | (with_reducible first | exact HB.out | apply below_alloc | apply pw_below_drewN | apply below_drew1) | exact HB.out))⟩⟩
    · obtain rfl : i = k := by omega
      have h1 : decide ((i : Int) < (i : Int)) = false := by simp
      have HNN := Aside0.mk (show n ∉ l by have := HN.out; rwa [List.take_of_length_le (by omega)] at this)
      clear HN
      go_wp2
      go_ret
      exact ⟨by rw [decide_eq_false HNN.out]; rfl, (by repeat (first | (with_reducible first | exact HB.out | apply below_alloc | apply pw_below_drewN | apply below_drew1) | exact HB.out))⟩
/-- In how many lists a number stands. -/
def cnt (ls : List (List Int)) (n : Int) : Nat := (ls.filter (fun l => decide (n ∈ l))).length
theorem cnt_le (ls : List (List Int)) (n : Int) : cnt ls n ≤ ls.length := List.length_filter_le _ _
theorem cnt_snoc (ls : List (List Int)) (l : List Int) (n : Int) : cnt (ls ++ [l]) n = cnt ls n + if n ∈ l then 1 else 0 := by
  unfold cnt
  rw [List.filter_append, List.length_append]
  by_cases h : n ∈ l <;> simp [h]
theorem cnt_pos (ls : List (List Int)) (n : Int) : 0 < cnt ls n ↔ ∃ l ∈ ls, n ∈ l := by
  unfold cnt
  rw [List.length_pos_iff_exists_mem]
  simp
theorem votes_calls (A : Option Addr) (k c : Nat) (ds : List Ds) (f : Ds → List Int) (n : Int) (w : World) (h : dSl.C w A k ds) (ht : Tls w f ds) (hk : k ≤ 12) :
    Calls Try.prog 31 #[.slice A k c, .int .i64 n] w fun e w' => e = .returned (.int .i64 (cnt (ds.map f) n : Nat)) ∧ Below w.heap.size w w' := by
  have H := Aside0.mk h
  have HT := Aside0.mk ht
  have hl : ds.length = k := h.1
  have hin := in_calls
  clear h ht
  go_enter Try.func31, Try.ntmps31
  go_wp2
  go_loopg [5, 6] (k + 1) (fun gk v5 v6 wr => ∃ i : Nat, v5 = .int .i64 (cnt ((ds.take i).map f) n : Nat) ∧ v6 = .int .i64 i ∧ i ≤ k ∧ Aside0 (gk = k - i + 1) ∧ Aside0 (Below w.heap.size w wr))
  case atStart => exact ⟨0, by simp [cnt], rfl, Nat.zero_le _, ⟨rfl⟩, ⟨Below.refl _ _⟩⟩
  case round =>
    obtain ⟨i, rfl, rfl, hi, HG, HB⟩ := hrel
    by_cases hlt : i < k
    · have h1 : decide ((i : Int) < (k : Int)) = true := by simp; omega
      have hp1 : (0 : Int) ≤ (i : Int) := by omega
      have hp2 : (i : Int) < (k : Int) := by omega
      obtain ⟨ad, rfl, hc⟩ := at_sl (Kd.C_below H.out HB.out) i hlt
      have hd : ds.getD i default ∈ ds := by
        rw [show ds.getD i default = ds[i]'(by omega) from by simp [show i < ds.length by omega]]
        exact List.getElem_mem _
      have HL := Aside0.mk (HT.out _ hd)
      have HTK := Aside0.mk (show cnt ((ds.take (i + 1)).map f) n = cnt ((ds.take i).map f) n + if n ∈ f (ds.getD i default) then 1 else 0 by
        rw [List.take_add_one]
        simp only [show i < ds.length by omega, List.getElem?_eq_getElem, Option.toList_some, List.map_append, List.map_cons, List.map_nil]
        rw [cnt_snoc]
        simp [show i < ds.length by omega])
      generalize ds.getD i default = d at *
      have hcl := cnt_le ((ds.take i).map f) n
      simp only [List.length_map, List.length_take] at hcl
      generalize hcc : cnt ((ds.take i).map f) n = cc at *
      clear hd hcc
      have hIN := Aside0.mk (fun W hB => in_calls d.a d.n d.c (f d) n W (Kd.C_below HL.out.row hB))
      by_cases he : n ∈ f d
      · have het : decide (n ∈ f d) = true := decide_eq_true he
        rw [if_pos he] at HTK
        clear he
        rw [het] at hIN
        go_wp2_with (go_at_call 32; (with_reducible refine (hIN.out _ (by repeat (first | (with_reducible first | exact HB.out | apply below_alloc | apply pw_below_drewN | apply below_drew1) | exact HB.out))).mono ?_); rintro e w' ⟨rfl, hb4⟩; have HB4 := Aside0.mk (below_then (by repeat (first | (with_reducible first | exact HB.out | apply below_alloc | apply pw_below_drewN | apply below_drew1) | exact HB.out)) (below_size (by repeat (first | (with_reducible first | exact HB.out | apply below_alloc | apply pw_below_drewN | apply below_drew1) | exact HB.out))) hb4); clear hb4)
        go_roundg (k - (i + 1) + 1)
        case measure => have := HG.out; omega
        case rel => exact ⟨i + 1, by rw [HTK.out]; go_num, by go_num, by omega, ⟨rfl⟩, ⟨(by repeat (first | (with_reducible first | exact HB4.out | apply below_alloc | apply pw_below_drewN | apply below_drew1) | exact HB4.out))⟩⟩
      · have het : decide (n ∈ f d) = false := decide_eq_false he
        rw [if_neg he] at HTK
        clear he
        rw [het] at hIN
        go_wp2_with (go_at_call 32; (with_reducible refine (hIN.out _ (by repeat (first | (with_reducible first | exact HB.out | apply below_alloc | apply pw_below_drewN | apply below_drew1) | exact HB.out))).mono ?_); rintro e w' ⟨rfl, hb4⟩; have HB4 := Aside0.mk (below_then (by repeat (first | (with_reducible first | exact HB.out | apply below_alloc | apply pw_below_drewN | apply below_drew1) | exact HB.out)) (below_size (by repeat (first | (with_reducible first | exact HB.out | apply below_alloc | apply pw_below_drewN | apply below_drew1) | exact HB.out))) hb4); clear hb4)
        go_roundg (k - (i + 1) + 1)
        case measure => have := HG.out; omega
        case rel => exact ⟨i + 1, by rw [HTK.out]; rfl, by go_num, by omega, ⟨rfl⟩, ⟨(by repeat (first | (with_reducible first | exact HB4.out | apply below_alloc | apply pw_below_drewN | apply below_drew1) | exact HB4.out))⟩⟩
    · obtain rfl : i = k := by omega
      have h1 : decide ((i : Int) < (i : Int)) = false := by simp
      rw [List.take_of_length_le (by omega)]
      go_wp2
      go_ret
      exact ⟨rfl, (by repeat (first | (with_reducible first | exact HB.out | apply below_alloc | apply pw_below_drewN | apply below_drew1) | exact HB.out))⟩
end Go.Proofs.Ytkobolgbmfhpgaa.SgL
