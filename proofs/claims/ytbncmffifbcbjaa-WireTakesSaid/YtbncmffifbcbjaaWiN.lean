/- What wire.nums computes: numbers' bytes behind a row of bytes; condition: the numbers are in range. -/
import Derived.Test.YtbncmffifbcbjaaONum
import Derived.Test.YtbncmffifbcbjaaOctP
namespace Go.Proofs.Ytbncmffifbcbjaa.WiN
open Go Go.RowKit Go.Proofs.YtbncmffifbcbjaaW.PrintWords Go.Proofs.Ytbncmffifbcbjaa.K Go.Proofs.Ytbncmffifbcbjaa.OctS Go.Proofs.Ytbncmffifbcbjaa.OctP Go.Proofs.Ytbncmffifbcbjaa.Oct
set_option linter.unusedVariables false
set_option linter.unusedSimpArgs false
theorem flatB_take (ns : List Nat) (i : Nat) (h : i < ns.length) : (ns.take (i + 1)).flatMap numB = (ns.take i).flatMap numB ++ numB (ns.getD i 0) := by
  rw [List.take_add_one, List.getElem?_eq_getElem h, List.flatMap_append]
  simp [h]
theorem flatB_le (ns : List Nat) (h : ∀ n ∈ ns, n ≤ 9007199254740991) : ((ns).flatMap numB).length ≤ 8 * ns.length := by
  induction ns with
  | nil => simp
  | cons n ns ih =>
    rw [List.flatMap_cons, List.length_append, List.length_cons]
    have := numB_len8 n (h n (by simp))
    have := ih (fun m hm => h m (by simp [hm]))
    omega
/-- What an append to a row of one's own has written: the row, and what is new. -/
structure Grew (w w1 : World) (v v1 : Value) : Prop where
  grown : w.grownBy w1 v.ownBlock
  own : v1.ownBlock = v.ownBlock ∨ ∃ b, v1.ownBlock = some b ∧ w.heap.size ≤ b
theorem Grew.refl (w : World) (v : Value) : Grew w w v v := ⟨⟨rfl, rfl, rfl, Nat.le_refl _, fun _ _ _ => rfl⟩, .inl rfl⟩
theorem Grew.below {w w1 w2 : World} {v v1 : Value} (h : Grew w w1 v v1) (hb : Below w1.heap.size w1 w2) : Grew w w2 v v1 :=
  ⟨⟨hb.os.trans h.grown.os, hb.tape.trans h.grown.tape, hb.output.trans h.grown.output, Nat.le_trans h.grown.size hb.size, fun k hk hne => (hb.block k (Nat.lt_of_lt_of_le hk h.grown.size)).trans (h.grown.block k hk hne)⟩, h.own⟩
theorem Grew.step {w w1 w2 : World} {v v1 v2 : Value} (h : Grew w w1 v v1) (hg : w1.grownBy w2 v1.ownBlock) (ho : v2.ownBlock = v1.ownBlock ∨ ∃ b, v2.ownBlock = some b ∧ w1.heap.size ≤ b) : Grew w w2 v v2 := by
  refine ⟨⟨hg.os.trans h.grown.os, hg.tape.trans h.grown.tape, hg.output.trans h.grown.output, Nat.le_trans h.grown.size hg.size, fun k hk hne => (hg.block k (Nat.lt_of_lt_of_le hk h.grown.size) ?_).trans (h.grown.block k hk hne)⟩, ?_⟩
  · rcases h.own with e | ⟨b, e, hb⟩
    · rw [e]; exact hne
    · rw [e]; intro e2; injection e2 with e2; omega
  · rcases ho with e | ⟨b, e, hb⟩
    · rw [e]; exact h.own
    · exact .inr ⟨b, e, Nat.le_trans h.grown.size hb⟩
theorem Grew.block {w w1 : World} {v v1 : Value} (h : Grew w w1 v v1) {g : Nat} {o : Obj} (hg : w.heap[g]? = some o) (hne : some g ≠ v.ownBlock) : w1.heap[g]? = some o :=
  (h.grown.block g (Array.getElem?_eq_some_iff.1 hg).1 hne).trans hg
set_option maxHeartbeats 1000000 in
theorem nums_calls (base g : Nat) (v : Value) (xs : List Int) (ns : List Nat) (m : Nat) (hm : ns.length = m) (w : World) (hO : Kd.R (Kd.int .u8) 5 w base (fun _ => True) (v) (xs)) (hg : w.heap[g]? = some (.cells (nums .i64 (ns.map (fun n : Nat => (n : Int)))).toArray 3 (0, 0))) (hb : base ≤ w.heap.size)
    (hn : ∀ n ∈ ns, n ≤ 9007199254740991) (hl : xs.length + 8 * ns.length ≤ 1000000) :
    Calls Try.prog 25 #[v,   .slice (some ⟨g, 0, none⟩) m m] w fun e w' => ∃ v', e = .returned v' ∧ Kd.R (Kd.int .u8) 5 w' base (fun _ => True) (v') (xs ++ ns.flatMap numB) ∧ Below base w w' ∧ Grew w w' v v' := by
  subst hm
  have HO := Aside0.mk hO
  have HG := Aside0.mk hg
  have HBB := Aside0.mk hb
  have HN := Aside0.mk hn
  have HL := Aside0.mk hl
  have hln : ns.length ≤ 1000000 := by omega
  clear hO hg hb hn hl
  go_enter Try.func25, Try.ntmps25
  go_wp2
  go_loopg [0, 11] (ns.length + 1) (fun gk v0 v11 wr => ∃ i : Nat, v11 = .int .i64 i ∧ i ≤ ns.length ∧ Aside0 (gk = ns.length - i + 1) ∧ Aside0 (Kd.R (Kd.int .u8) 5 wr base (fun _ => True) (v0) ((xs ++ (ns.take i).flatMap numB))) ∧ Aside0 (wr.heap[g]? = some (.cells (nums .i64 (ns.map (fun n : Nat => (n : Int)))).toArray 3 (0, 0))) ∧ Aside0 (Below base w wr) ∧ Aside0 (base ≤ wr.heap.size) ∧ Aside0 (Grew w wr v v0))
  case atStart => exact ⟨0, rfl, Nat.zero_le _, ⟨rfl⟩, ⟨by simpa using HO.out⟩, HG, ⟨Below.refl _ _⟩, HBB, ⟨Grew.refl _ _⟩⟩
  case round =>
    obtain ⟨i, rfl, hi, HK, HOr, HGr, HBr, HBBr, HGW⟩ := hrel
    by_cases hlt : i < ns.length
    · have h1 : decide ((i : Int) < (ns.length : Int)) = true := by simp; omega
      have hp1 : (0 : Int) ≤ (i : Int) := by omega
      have hp2 : (i : Int) < (ns.length : Int) := by omega
      have hc : wr.cell? ⟨g, i, none⟩ = some (.int .i64 (ns.getD i 0 : Nat)) := obj_cell HGr.out i (by simp [nums, hlt])
      have HF := Aside0.mk (flatB_take ns i hlt)
      have HX : Aside0 (ns.getD i 0 ≤ 9007199254740991) := ⟨HN.out _ (by simp [hlt])⟩
      have HLi : Aside0 (((ns.take i).flatMap numB).length ≤ 8 * i) := ⟨by
        have := flatB_le (ns.take i) (fun n hn => HN.out n (List.mem_of_mem_take hn))
        rw [List.length_take] at this
        omega⟩
      generalize ns.getD i 0 = x at *
      have HLx := Aside0.mk (numB_len8 x HX.out)
      go_wp2_with (first | (go_at_call 42; (with_reducible refine (num_ok x HX.out _).mono ?_); rintro e w' ⟨v1, rfl, ho, hb1⟩; obtain ⟨A1, c1, rfl, hl1, hC1⟩ := Kd.R_reads ho; have HC := Aside0.mk hC1; have HB := Aside0.mk hb1; have HB1 := Aside0.mk (HBr.out.trans (Below.mono hb1 HBBr.out)); have HS1 := Aside0.mk (Nat.le_trans HBBr.out hb1.size); have HGw := Aside0.mk ((hb1.block g ((Array.getElem?_eq_some_iff.1 HGr.out).1)).trans HGr.out); have HGW1 := Aside0.mk (HGW.out.below hb1); have HOw := Aside0.mk (Kd.R_below HOr.out hb1); clear ho hb1 hC1) | ((with_reducible refine gate_builtin (b := .append) (xs := #[.tmp 20, .tmp 21]) rfl ?_); at_builtin; refine app (Kd.int .u8) (flat_int _) base (w0 := w) (.tmp 20) (.tmp 21) 25 5 (.int .u8 0) 1 rfl rfl Try.underlying25 infoU8 rfl (by decide) (by decide) _ (xs ++ (ns.take i).flatMap numB) (numB x) A1 (numB x).length c1 rfl rfl ?aO ?aR ?aB ?aS ?aL ?_; (case aO => exact HOw.out); (case aR => exact HC.out); (case aB => exact HB1.out); (case aS => exact HS1.out); (case aL => exact (by have := HL.out; have := HLi.out; have := HLx.out; simp only [List.length_append]; omega)); intro v2 w2 ho2 hb2 hg2 hat2; have HGW2 := Aside0.mk (HGW1.out.step hg2 hat2); have HO2 := Aside0.mk ho2; have HB2 := Aside0.mk hb2; have HG2 := Aside0.mk hg2; clear ho2 hb2 hg2 hat2))
      go_roundg (ns.length - (i + 1) + 1)
      case measure => have := HK.out; omega
      case rel => exact ⟨i + 1, by go_num, by omega, ⟨rfl⟩, ⟨by rw [HF.out, ← List.append_assoc]; exact HO2.out⟩, ⟨(HG2.out.block g (Array.getElem?_eq_some_iff.1 HGw.out).1 (Kd.R_ne HOw.out HGw.out (by decide))).trans HGw.out⟩, HB2, ⟨Nat.le_trans HS1.out HG2.out.size⟩, HGW2⟩
    · obtain rfl : i = ns.length := by omega
      have h1 : decide ((ns.length : Int) < (ns.length : Int)) = false := by simp
      go_wp2
      go_ret
      exact ⟨_, rfl, by have := HOr.out; rwa [List.take_length] at this, HBr.out, HGW.out⟩
end Go.Proofs.Ytbncmffifbcbjaa.WiN
