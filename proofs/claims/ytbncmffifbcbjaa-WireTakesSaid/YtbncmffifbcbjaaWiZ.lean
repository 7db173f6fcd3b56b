/- The reference's Same of notes at one note in two places: it answers true; condition: both read as the note, its names are not too long. -/
import Derived.Test.YtbncmffifbcbjaaWiF
import Derived.Test.YtbncmffifbcbjaaEq
namespace Go.Proofs.Ytbncmffifbcbjaa.WiZ
open Go Go.RowKit Go.Proofs.YtbncmffifbcbjaaW.PrintWords Go.Proofs.Ytbncmffifbcbjaa.K Go.Proofs.Ytbncmffifbcbjaa.OctS Go.Proofs.Ytbncmffifbcbjaa.Nm Go.Proofs.Ytbncmffifbcbjaa.Hl Go.Proofs.Ytbncmffifbcbjaa.WiA Go.Proofs.Ytbncmffifbcbjaa.WiB Go.Proofs.Ytbncmffifbcbjaa.WiD Go.Proofs.Ytbncmffifbcbjaa.WiE Go.Proofs.Ytbncmffifbcbjaa.WiF Go.Proofs.Ytbncmffifbcbjaa.Eq
set_option linter.unusedVariables false
set_option linter.unusedSimpArgs false
theorem lits_str {P : Program} {t : TypeId} (hu : P.underlying t = some .string) (d : Nat) {s : ByteArray} (hs : s.size ≤ maxLen) : ∃ L, P.keyLits (d + 1) t [.string s] = some L := by
  unfold Program.keyLits
  simp only [hu]
  rw [if_pos hs]
  exact ⟨_, rfl⟩
theorem wide_held : Wide Try.prog 46 := ⟨⟨3, by omega, by kernel_rfl, by kernel_rfl⟩, by rw [Try.underlying46]⟩
theorem wide_part : Wide Try.prog 51 := ⟨⟨3, by omega, by kernel_rfl, by kernel_rfl⟩, by rw [Try.underlying51]⟩
theorem key_held (h : Hl) (ho : h.Ok) (hs : h.name.size ≤ maxLen) : ∃ l, keyOf Try.prog 46 (.agg h.cells.toArray) = some l := by
  obtain ⟨m, hm⟩ : ∃ m, Try.prog.types.size = m + 2 := ⟨Try.prog.types.size - 2, by kernel_rfl⟩
  have c1 : Try.prog.cellsOf 3 = 1 := by kernel_rfl
  have c2 : Try.prog.cellsOf 9 = 1 := by kernel_rfl
  obtain ⟨L, hL⟩ := lits_struct (P := Try.prog) (k := 46) Try.underlying46 (cs := h.cells) (by kernel_rfl) (by kernel_rfl) (m + 2) (by
    intro f hf
    simp only [List.mem_cons, List.not_mem_nil, or_false] at hf
    rcases hf with rfl | rfl
    · show ∃ L, Try.prog.keyLits (m + 2) 9 ((h.cells.drop 0).take (Try.prog.cellsOf 9)) = some L
      rw [c2]; exact lits_str Try.underlying9 (m + 1) hs
    · show ∃ L, Try.prog.keyLits (m + 2) 3 ((h.cells.drop 1).take (Try.prog.cellsOf 3)) = some L
      rw [c1]; exact ⟨_, lits_int Try.underlying3 (m + 1) ho.g⟩)
  rw [show m + 2 + 1 = Try.prog.types.size + 1 from by omega] at hL
  exact key_of_lits wide_held (by kernel_rfl) (by kernel_rfl) hL
theorem key_part (r : Pt) (h : r.Ok) : ∃ l, keyOf Try.prog 51 (.agg r.cells.toArray) = some l := by
  obtain ⟨m, hm⟩ : ∃ m, Try.prog.types.size = m + 2 := ⟨Try.prog.types.size - 2, by kernel_rfl⟩
  have hl : (nums .u8 r.s).length = 32 := by simp [nums, h.n]
  have h0 : ∃ L, Try.prog.keyLits (m + 2) 49 (nums .u8 r.s) = some L := lits_arr Try.underlying49 Try.underlying5 (by kernel_rfl) (by kernel_rfl) m h.n h.wf
  have c32 : Try.prog.cellsOf 49 = 32 := by kernel_rfl
  have c1 : Try.prog.cellsOf 3 = 1 := by kernel_rfl
  have d32 : r.cells.drop 32 = [.int .i64 r.len] := by
    show (nums .u8 r.s ++ _).drop 32 = _
    rw [List.drop_append_of_le_length (by omega), List.drop_of_length_le (by omega), List.nil_append]
  have t0 : (r.cells.drop 0).take 32 = nums .u8 r.s := by
    rw [List.drop_zero]
    show (nums .u8 r.s ++ _).take 32 = _
    rw [List.take_append_of_le_length (by omega), List.take_of_length_le (by omega)]
  obtain ⟨L, hL⟩ := lits_struct (P := Try.prog) (k := 51) Try.underlying51 (cs := r.cells) (by rw [Pt.cells_len h]; kernel_rfl) (by kernel_rfl) (m + 2) (by
    intro f hf
    simp only [List.mem_cons, List.not_mem_nil, or_false] at hf
    rcases hf with rfl | rfl
    · show ∃ L, Try.prog.keyLits (m + 2) 49 ((r.cells.drop 0).take (Try.prog.cellsOf 49)) = some L
      rw [c32, t0]; exact h0
    · show ∃ L, Try.prog.keyLits (m + 2) 3 ((r.cells.drop 32).take (Try.prog.cellsOf 3)) = some L
      rw [c1, d32]; exact ⟨_, lits_int Try.underlying3 (m + 1) h.l⟩)
  rw [show m + 2 + 1 = Try.prog.types.size + 1 from by omega] at hL
  exact key_of_lits wide_part (by kernel_rfl) (by rw [Pt.cells_len h]; kernel_rfl) hL
/-- Both notes as they were laid. -/
structure Two (w W : World) (g1 g2 : Nat) (n : Nt) (a1 a2 : Ads) : Prop where
  b : Below w.heap.size w W
  x : W.heap[g1]? = some (.cells (noteV n a1) 27 (0, 0))
  y : W.heap[g2]? = some (.cells (noteV n a2) 27 (0, 0))
theorem Two.below {w W W1 : World} {g1 g2 : Nat} {n : Nt} {a1 a2 : Ads} (h : Two w W g1 g2 n a1 a2) (hb : Below W.heap.size W W1) : Two w W1 g1 g2 n a1 a2 := ⟨below_then h.b h.b.size hb, (hb.block _ (Array.getElem?_eq_some_iff.1 h.x).1).trans h.x, (hb.block _ (Array.getElem?_eq_some_iff.1 h.y).1).trans h.y⟩
set_option maxHeartbeats 4000000 in
set_option maxRecDepth 20000 in
theorem same_calls (n : Nt) (a1 a2 : Ads) (w : World) (h1 : NtC w n a1) (h2 : NtC w n a2) (hs : ∀ x ∈ n.held, x.name.size ≤ maxLen) : Calls Try.prog 14 #[.agg (noteV n a1), .agg (noteV n a2)] w fun e w' => e = .returned (.bool true) ∧ Below w.heap.size w w' := by
  have H1 := Aside0.mk h1
  have H2 := Aside0.mk h2
  have HS := Aside0.mk hs
  have hnh : n.held.length ≤ 9223372036854775807 := h1.h.2.1
  have hnp : n.parts.length ≤ 9223372036854775807 := h1.p.2.1
  obtain ⟨W, hW⟩ : ∃ W, W = (w.alloc (.cells (noteV n a1) 27)).alloc (.cells (noteV n a2) 27) := ⟨_, rfl⟩
  have T0 : Aside0 (Two w W w.heap.size (w.heap.size + 1) n a1 a2) := ⟨by
    rw [hW]
    refine ⟨below_alloc (below_alloc (Below.refl _ _) _) _, (Below.heap_alloc _ _ _ (by simp)).trans (heap_alloc_new w _), ?_⟩
    have := heap_alloc_new (w.alloc (.cells (noteV n a1) 27)) (.cells (noteV n a2) 27)
    rwa [World.size_alloc] at this⟩
  simp only [noteV] at hW
  have hWs := hW.symm
  obtain ⟨c0, c1, c2, c3, c4, c5, c6⟩ := note_cells T0.out.x
  obtain ⟨e0, e1, e2, e3, e4, e5, e6⟩ := note_cells T0.out.y
  have hcv1 := conv_read (P := Try.prog) (c := a1.cb) 25 9 5 Try.underlying25 Try.underlying5 Try.underlying9 (Kd.C_below H1.out.b T0.out.b) rfl
  have hcv2 := conv_read (P := Try.prog) (c := a2.cb) 25 9 5 Try.underlying25 Try.underlying5 Try.underlying9 (Kd.C_below H2.out.b T0.out.b) rfl
  clear h1 h2 hs hW
  have HUP := Aside0.mk Try.underlying51
  have HUH := Aside0.mk Try.underlying46
  rw [show noteV n a1 = #[.int .i64 n.say, .string n.name, .int .i64 n.gen, .int .i64 n.i, .slice a1.ah n.held.length a1.ch, .slice a1.ap n.parts.length a1.cp, .slice a1.ab n.bytes.length a1.cb] from rfl, show noteV n a2 = #[.int .i64 n.say, .string n.name, .int .i64 n.gen, .int .i64 n.i, .slice a2.ah n.held.length a2.ch, .slice a2.ap n.parts.length a2.cp, .slice a2.ab n.bytes.length a2.cb] from rfl]
  go_enter Try.func14, Try.ntmps14
  go_wp2_with fail
  clear c0 c1 c2 c3 c4 c5 c6 e0 e1 e2 e3 e4 e5 e6 hcv1 hcv2 hWs
  go_loopg [5] (n.held.length + 1) (fun gk v5 wr => ∃ i : Nat, v5 = .int .i64 i ∧ i ≤ n.held.length ∧ Aside0 (gk = n.held.length - i + 1) ∧ Aside0 (Two w wr w.heap.size (w.heap.size + 1) n a1 a2))
  case atStart => exact ⟨0, rfl, Nat.zero_le _, ⟨rfl⟩, T0⟩
  case round =>
    obtain ⟨i, rfl, hi, HG, T⟩ := hrel
    obtain ⟨c0, c1, c2, c3, c4, c5, c6⟩ := note_cells T.out.x
    by_cases hlt : i < n.held.length
    · have d1 : decide ((i : Int) < (n.held.length : Int)) = true := by simp; omega
      have hp1 : (0 : Int) ≤ (i : Int) := by omega
      have hp2 : (i : Int) < (n.held.length : Int) := by omega
      obtain ⟨ad, had, hok, -, -⟩ := hl_at H1.out.h i hlt
      obtain ⟨bd, hbd, -, -, -⟩ := hl_at H2.out.h i hlt
      have HCE : Aside0 (∀ {X : World}, Two w X w.heap.size (w.heap.size + 1) n a1 a2 → (X.cell? ⟨w.heap.size, 4, none⟩ = some (.slice (some ad) n.held.length a1.ch) ∧ X.cell? (ad.add (i * 2)) = some (.string (n.held.getD i default).name) ∧ X.cell? ⟨(ad.add (i * 2)).block, (ad.add (i * 2)).off + 1, none⟩ = some (.int .i64 (n.held.getD i default).gen)) ∧ X.cell? ⟨w.heap.size + 1, 4, none⟩ = some (.slice (some bd) n.held.length a2.ch) ∧ X.cell? (bd.add (i * 2)) = some (.string (n.held.getD i default).name) ∧ X.cell? ⟨(bd.add (i * 2)).block, (bd.add (i * 2)).off + 1, none⟩ = some (.int .i64 (n.held.getD i default).gen)) := ⟨fun hX => by
        obtain ⟨ad', had', _, b0, b1⟩ := hl_at (Kd.C_below H1.out.h hX.b) i hlt
        obtain ⟨bd', hbd', _, d0, d1⟩ := hl_at (Kd.C_below H2.out.h hX.b) i hlt
        rw [had] at had'
        rw [hbd] at hbd'
        obtain rfl : ad = ad' := by injection had'
        obtain rfl : bd = bd' := by injection hbd'
        exact ⟨⟨by rw [← had]; exact (note_cells hX.x).2.2.2.2.1, b0, b1⟩, by rw [← hbd]; exact (note_cells hX.y).2.2.2.2.1, d0, d1⟩⟩
      have hmem : n.held.getD i default ∈ n.held := by
        rw [show n.held.getD i default = n.held[i] from by simp [hlt]]
        exact List.getElem_mem _
      obtain ⟨l, hkey⟩ := key_held _ hok (HS.out _ hmem)
      have hne := fun W => neq_same wide_held hkey W
      simp only [Hl.cells] at hne
      generalize n.held.getD i default = k at *
      clear hok hmem had hbd hkey
      obtain ⟨knm, kgen⟩ := k
      simp only at *
      go_wp2_with fail
      clear c0 c1 c2 c3 c4 c5 c6
      have TD := Aside0.mk (T.out.below (below_drew1 (Below.refl wr.heap.size wr)))
      (refine Hd.startE (S := (fun X => (X.cell? ⟨w.heap.size, 4, none⟩ = some (.slice (some ad) n.held.length a1.ch) ∧ X.cell? (ad.add (i * 2)) = some (.string knm) ∧ X.cell? ⟨(ad.add (i * 2)).block, (ad.add (i * 2)).off + 1, none⟩ = some (.int .i64 kgen)) ∧ X.cell? ⟨w.heap.size + 1, 4, none⟩ = some (.slice (some bd) n.held.length a2.ch) ∧ X.cell? (bd.add (i * 2)) = some (.string knm) ∧ X.cell? ⟨(bd.add (i * 2)).block, (bd.add (i * 2)).off + 1, none⟩ = some (.int .i64 kgen))) 1000 (by kernel_rfl) (HCE.out TD.out) (fun hHeld => ?_))
      (refine Hd.takeE (i := 0) (v := ?_) rfl rfl (by kernel_rfl) (by kernel_rfl) (by kernel_rfl) (by kernel_rfl) (by first | exact fun _ _ _ h => h | exact fun _ _ _ h => HQP.out (by decide) h) (Or.inl ⟨by rfl, ?_⟩) (by assumption) ?_; rotate_left; (focus (intro wS hS; (try go_split_ands); go_simp; all_goals (with_reducible rfl))); simp only [List.set_cons_zero, List.set_cons_succ, List.setIfInBounds_toArray]); (refine Hd.takeE (i := 1) (v := ?_) rfl rfl (by kernel_rfl) (by kernel_rfl) (by kernel_rfl) (by kernel_rfl) (by first | exact fun _ _ _ h => h | exact fun _ _ _ h => HQP.out (by decide) h) (Or.inl ⟨by rfl, ?_⟩) (by assumption) ?_; rotate_left; (focus (intro wS hS; (try go_split_ands); go_simp; all_goals (with_reducible rfl))); simp only [List.set_cons_zero, List.set_cons_succ, List.setIfInBounds_toArray]); (refine Hd.takeE (i := 2) (v := ?_) rfl rfl (by kernel_rfl) (by kernel_rfl) (by kernel_rfl) (by kernel_rfl) (by first | exact fun _ _ _ h => h | exact fun _ _ _ h => HQP.out (by decide) h) (Or.inl ⟨by rfl, ?_⟩) (by assumption) ?_; rotate_left; (focus (intro wS hS; (try go_split_ands); go_simp; all_goals (with_reducible rfl))); simp only [List.set_cons_zero, List.set_cons_succ, List.setIfInBounds_toArray]); (refine Hd.takeE (i := 3) (v := ?_) rfl rfl (by kernel_rfl) (by kernel_rfl) (by kernel_rfl) (by kernel_rfl) (by first | exact fun _ _ _ h => h | exact fun _ _ _ h => HQP.out (by decide) h) (Or.inl ⟨by rfl, ?_⟩) (by assumption) ?_; rotate_left; (focus (intro wS hS; (try go_split_ands); go_simp; all_goals (with_reducible rfl))); simp only [List.set_cons_zero, List.set_cons_succ, List.setIfInBounds_toArray]); (refine Hd.takeE (i := 4) (v := ?_) rfl rfl (by kernel_rfl) (by kernel_rfl) (by kernel_rfl) (by kernel_rfl) (by first | exact fun _ _ _ h => h | exact fun _ _ _ h => HQP.out (by decide) h) (Or.inl ⟨by rfl, ?_⟩) (by assumption) ?_; rotate_left; (focus (intro wS hS; (try go_split_ands); go_simp; all_goals (with_reducible rfl))); simp only [List.set_cons_zero, List.set_cons_succ, List.setIfInBounds_toArray]); (refine Hd.takeE (i := 5) (v := ?_) rfl rfl (by kernel_rfl) (by kernel_rfl) (by kernel_rfl) (by kernel_rfl) (by first | exact fun _ _ _ h => h | exact fun _ _ _ h => HQP.out (by decide) h) (Or.inl ⟨by rfl, ?_⟩) (by assumption) ?_; rotate_left; (focus (intro wS hS; (try go_split_ands); go_simp; all_goals (with_reducible rfl))); simp only [List.set_cons_zero, List.set_cons_succ, List.setIfInBounds_toArray]); (refine Hd.takeE (i := 6) (v := ?_) rfl rfl (by kernel_rfl) (by kernel_rfl) (by kernel_rfl) (by kernel_rfl) (by first | exact fun _ _ _ h => h | exact fun _ _ _ h => HQP.out (by decide) h) (Or.inl ⟨by rfl, ?_⟩) (by assumption) ?_; rotate_left; (focus (intro wS hS; (try go_split_ands); go_simp; all_goals (with_reducible rfl))); simp only [List.set_cons_zero, List.set_cons_succ, List.setIfInBounds_toArray]); (refine Hd.takeE (i := 7) (v := ?_) rfl rfl (by kernel_rfl) (by kernel_rfl) (by kernel_rfl) (by kernel_rfl) (by first | exact fun _ _ _ h => h | exact fun _ _ _ h => HQP.out (by decide) h) (Or.inl ⟨by rfl, ?_⟩) (by assumption) ?_; rotate_left; (focus (intro wS hS; (try go_split_ands); go_simp; all_goals (with_reducible rfl))); simp only [List.set_cons_zero, List.set_cons_succ, List.setIfInBounds_toArray]); (refine Hd.takeE (i := 8) (v := ?_) rfl rfl (by kernel_rfl) (by kernel_rfl) (by kernel_rfl) (by kernel_rfl) (by first | exact fun _ _ _ h => h | exact fun _ _ _ h => HQP.out (by decide) h) (Or.inl ⟨by rfl, ?_⟩) (by assumption) ?_; rotate_left; (focus (intro wS hS; (try go_split_ands); go_simp; all_goals (with_reducible rfl))); simp only [List.set_cons_zero, List.set_cons_succ, List.setIfInBounds_toArray]); (refine Hd.takeE (i := 9) (v := ?_) rfl rfl (by kernel_rfl) (by kernel_rfl) (by kernel_rfl) (by kernel_rfl) (by first | exact fun _ _ _ h => h | exact fun _ _ _ h => HQP.out (by decide) h) (Or.inl ⟨by rfl, ?_⟩) (by assumption) ?_; rotate_left; (focus (intro wS hS; (try go_split_ands); go_simp; all_goals (with_reducible rfl))); simp only [List.set_cons_zero, List.set_cons_succ, List.setIfInBounds_toArray]); (refine Hd.takeE (i := 10) (v := ?_) rfl rfl (by kernel_rfl) (by kernel_rfl) (by kernel_rfl) (by kernel_rfl) (by first | exact fun _ _ _ h => h | exact fun _ _ _ h => HQP.out (by decide) h) (Or.inl ⟨by rfl, ?_⟩) (by assumption) ?_; rotate_left; (focus (intro wS hS; (try go_split_ands); go_simp; all_goals (with_reducible rfl))); simp only [List.set_cons_zero, List.set_cons_succ, List.setIfInBounds_toArray])
      (refine Hd.endE (by kernel_rfl) ?_ _)
      go_wp2_with fail
      go_roundg (n.held.length - (i + 1) + 1)
      case measure => have := HG.out; omega
      case rel => exact ⟨i + 1, by go_num, by omega, ⟨rfl⟩, TD⟩
    · obtain rfl : i = n.held.length := by omega
      have d1 : decide ((n.held.length : Int) < (n.held.length : Int)) = false := by simp
      clear hlt
      go_wp2_with fail
      clear c0 c1 c2 c3 c4 c5 c6
      go_loopg [6] (n.parts.length + 1) (fun gk v5 wr => ∃ i : Nat, v5 = .int .i64 i ∧ i ≤ n.parts.length ∧ Aside0 (gk = n.parts.length - i + 1) ∧ Aside0 (Two w wr w.heap.size (w.heap.size + 1) n a1 a2))
      case atStart => exact ⟨0, rfl, Nat.zero_le _, ⟨rfl⟩, T⟩
      case round =>
        obtain ⟨i, rfl, hi, HG, T⟩ := hrel
        obtain ⟨c0, c1, c2, c3, c4, c5, c6⟩ := note_cells T.out.x
        by_cases hlt : i < n.parts.length
        · have d1 : decide ((i : Int) < (n.parts.length : Int)) = true := by simp; omega
          have hp1 : (0 : Int) ≤ (i : Int) := by omega
          have hp2 : (i : Int) < (n.parts.length : Int) := by omega
          obtain ⟨ad, had, hok, -⟩ := pt_at H1.out.p i hlt
          obtain ⟨bd, hbd, -, -⟩ := pt_at H2.out.p i hlt
          have HCE : Aside0 (∀ {X : World}, Two w X w.heap.size (w.heap.size + 1) n a1 a2 → (X.cell? ⟨w.heap.size, 5, none⟩ = some (.slice (some ad) n.parts.length a1.cp) ∧ X.cell? ⟨w.heap.size + 1, 5, none⟩ = some (.slice (some bd) n.parts.length a2.cp)) ∧ Hd.RangeA X (ad.add (i * 33)) (n.parts.getD i default).cells ∧ Hd.RangeA X (bd.add (i * 33)) (n.parts.getD i default).cells) := ⟨fun hX => by
            obtain ⟨ad', had', _, b0⟩ := pt_at (Kd.C_below H1.out.p hX.b) i hlt
            obtain ⟨bd', hbd', _, d0⟩ := pt_at (Kd.C_below H2.out.p hX.b) i hlt
            rw [had] at had'
            rw [hbd] at hbd'
            obtain rfl : ad = ad' := by injection had'
            obtain rfl : bd = bd' := by injection hbd'
            exact ⟨⟨by rw [← had]; exact (note_cells hX.x).2.2.2.2.2.1, by rw [← hbd]; exact (note_cells hX.y).2.2.2.2.2.1⟩, b0, d0⟩⟩
          obtain ⟨l, hkey⟩ := key_part _ hok
          have hne := fun W => neq_same wide_part hkey W
          have HI := Aside0.mk (infoPtS (Pt.cells_len hok))
          clear hok had hbd hkey
          generalize (n.parts.getD i default).cells = C at *
          go_wp2_with fail
          clear c0 c1 c2 c3 c4 c5 c6
          have TD := Aside0.mk (T.out.below (below_drew1 (Below.refl wr.heap.size wr)))
          (refine Hd.startE (S := (fun X => (X.cell? ⟨w.heap.size, 5, none⟩ = some (.slice (some ad) n.parts.length a1.cp) ∧ X.cell? ⟨w.heap.size + 1, 5, none⟩ = some (.slice (some bd) n.parts.length a2.cp)) ∧ Hd.RangeA X (ad.add (i * 33)) C ∧ Hd.RangeA X (bd.add (i * 33)) C)) 1000 (by kernel_rfl) (HCE.out TD.out) (fun hHeld => ?_))
          (refine Hd.takeE (i := 0) (v := ?_) rfl rfl (by kernel_rfl) (by kernel_rfl) (by kernel_rfl) (by kernel_rfl) (by first | exact fun _ _ _ h => h | exact fun _ _ _ h => HQP.out (by decide) h) (Or.inl ⟨by rfl, ?_⟩) (by assumption) ?_; rotate_left; (focus (intro wS hS; (try go_split_ands); go_simp; all_goals (with_reducible rfl))); simp only [List.set_cons_zero, List.set_cons_succ, List.setIfInBounds_toArray]); (refine Hd.takeE (i := 1) (v := ?_) rfl rfl (by kernel_rfl) (by kernel_rfl) (by kernel_rfl) (by kernel_rfl) (by first | exact fun _ _ _ h => h | exact fun _ _ _ h => HQP.out (by decide) h) (Or.inl ⟨by rfl, ?_⟩) (by assumption) ?_; rotate_left; (focus (intro wS hS; (try go_split_ands); go_simp; all_goals (with_reducible rfl))); simp only [List.set_cons_zero, List.set_cons_succ, List.setIfInBounds_toArray]); (refine Hd.takeE (i := 2) (v := ?_) rfl rfl (by kernel_rfl) (by kernel_rfl) (by kernel_rfl) (by kernel_rfl) (by first | exact fun _ _ _ h => h | exact fun _ _ _ h => HQP.out (by decide) h) (Or.inl ⟨by rfl, ?_⟩) (by assumption) ?_; rotate_left; (focus (intro wS hS; (try go_split_ands); go_simp; all_goals (with_reducible rfl))); simp only [List.set_cons_zero, List.set_cons_succ, List.setIfInBounds_toArray]); (refine Hd.takeE (i := 3) (v := ?_) rfl rfl (by kernel_rfl) (by kernel_rfl) (by kernel_rfl) (by kernel_rfl) (by first | exact fun _ _ _ h => h | exact fun _ _ _ h => HQP.out (by decide) h) (Or.inl ⟨by rfl, ?_⟩) (by assumption) ?_; rotate_left; (focus (intro wS hS; (try go_split_ands); go_simp; all_goals (with_reducible rfl))); simp only [List.set_cons_zero, List.set_cons_succ, List.setIfInBounds_toArray])
          (refine Hd.takeE (i := 4) rfl rfl (by kernel_rfl) (by kernel_rfl) (by kernel_rfl) (by kernel_rfl) (by first | exact fun _ _ _ h => h | exact fun _ _ _ h => HQP.out (by decide) h) (Hd.yieldsIf_load_any (by rfl) 51 _ rfl _ rfl C _ (fun wS hS => hS.2.1) HUP.out rfl HI.out) (by assumption) ?_; simp only [List.set_cons_zero, List.set_cons_succ, List.setIfInBounds_toArray])
          (refine Hd.takeE (i := 5) (v := ?_) rfl rfl (by kernel_rfl) (by kernel_rfl) (by kernel_rfl) (by kernel_rfl) (by first | exact fun _ _ _ h => h | exact fun _ _ _ h => HQP.out (by decide) h) (Or.inl ⟨by rfl, ?_⟩) (by assumption) ?_; rotate_left; (focus (intro wS hS; (try go_split_ands); go_simp; all_goals (with_reducible rfl))); simp only [List.set_cons_zero, List.set_cons_succ, List.setIfInBounds_toArray]); (refine Hd.takeE (i := 6) (v := ?_) rfl rfl (by kernel_rfl) (by kernel_rfl) (by kernel_rfl) (by kernel_rfl) (by first | exact fun _ _ _ h => h | exact fun _ _ _ h => HQP.out (by decide) h) (Or.inl ⟨by rfl, ?_⟩) (by assumption) ?_; rotate_left; (focus (intro wS hS; (try go_split_ands); go_simp; all_goals (with_reducible rfl))); simp only [List.set_cons_zero, List.set_cons_succ, List.setIfInBounds_toArray]); (refine Hd.takeE (i := 7) (v := ?_) rfl rfl (by kernel_rfl) (by kernel_rfl) (by kernel_rfl) (by kernel_rfl) (by first | exact fun _ _ _ h => h | exact fun _ _ _ h => HQP.out (by decide) h) (Or.inl ⟨by rfl, ?_⟩) (by assumption) ?_; rotate_left; (focus (intro wS hS; (try go_split_ands); go_simp; all_goals (with_reducible rfl))); simp only [List.set_cons_zero, List.set_cons_succ, List.setIfInBounds_toArray]); (refine Hd.takeE (i := 8) (v := ?_) rfl rfl (by kernel_rfl) (by kernel_rfl) (by kernel_rfl) (by kernel_rfl) (by first | exact fun _ _ _ h => h | exact fun _ _ _ h => HQP.out (by decide) h) (Or.inl ⟨by rfl, ?_⟩) (by assumption) ?_; rotate_left; (focus (intro wS hS; (try go_split_ands); go_simp; all_goals (with_reducible rfl))); simp only [List.set_cons_zero, List.set_cons_succ, List.setIfInBounds_toArray])
          (refine Hd.takeE (i := 9) rfl rfl (by kernel_rfl) (by kernel_rfl) (by kernel_rfl) (by kernel_rfl) (by first | exact fun _ _ _ h => h | exact fun _ _ _ h => HQP.out (by decide) h) (Hd.yieldsIf_load_any (by rfl) 51 _ rfl _ rfl C _ (fun wS hS => hS.2.2) HUP.out rfl HI.out) (by assumption) ?_; simp only [List.set_cons_zero, List.set_cons_succ, List.setIfInBounds_toArray])
          (refine Hd.takeE (i := 10) (v := ?_) rfl rfl (by kernel_rfl) (by kernel_rfl) (by kernel_rfl) (by kernel_rfl) (by first | exact fun _ _ _ h => h | exact fun _ _ _ h => HQP.out (by decide) h) (Or.inl ⟨by rfl, ?_⟩) (by assumption) ?_; rotate_left; (focus (intro wS hS; (try go_split_ands); go_simp; all_goals (with_reducible rfl))); simp only [List.set_cons_zero, List.set_cons_succ, List.setIfInBounds_toArray])
          (refine Hd.endE (by kernel_rfl) ?_ _)
          go_wp2_with fail
          go_roundg (n.parts.length - (i + 1) + 1)
          case measure => have := HG.out; omega
          case rel => exact ⟨i + 1, by go_num, by omega, ⟨rfl⟩, TD⟩
        · obtain rfl : i = n.parts.length := by omega
          have d1 : decide ((n.parts.length : Int) < (n.parts.length : Int)) = false := by simp
          clear hlt
          go_wp2_with fail
          go_ret
          exact ⟨rfl, T.out.b⟩
end Go.Proofs.Ytbncmffifbcbjaa.WiZ
