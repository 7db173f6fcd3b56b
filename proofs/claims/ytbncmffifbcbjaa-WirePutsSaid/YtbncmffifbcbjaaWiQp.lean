/- What the reference's Put of wire computes: a note's bytes, or why there are none; condition: the note reads as a note. -/
import Derived.Test.YtbncmffifbcbjaaWiQ
import Derived.Test.YtbncmffifbcbjaaWiG
import Derived.Test.YtbncmffifbcbjaaWiP
namespace Go.Proofs.Ytbncmffifbcbjaa.WiQp
open Go Go.RowKit Go.Proofs.YtbncmffifbcbjaaW.PrintWords Go.Proofs.Ytbncmffifbcbjaa.K Go.Proofs.Ytbncmffifbcbjaa.OctS Go.Proofs.Ytbncmffifbcbjaa.OctP Go.Proofs.Ytbncmffifbcbjaa.Oct Go.Proofs.Ytbncmffifbcbjaa.Nm Go.Proofs.Ytbncmffifbcbjaa.Hl Go.Proofs.Ytbncmffifbcbjaa.WiA Go.Proofs.Ytbncmffifbcbjaa.WiB Go.Proofs.Ytbncmffifbcbjaa.WiD Go.Proofs.Ytbncmffifbcbjaa.WiE Go.Proofs.Ytbncmffifbcbjaa.WiF Go.Proofs.Ytbncmffifbcbjaa.WiG Go.Proofs.Ytbncmffifbcbjaa.WiN Go.Proofs.Ytbncmffifbcbjaa.Ap Go.Proofs.Ytbncmffifbcbjaa.WiT Go.Proofs.Ytbncmffifbcbjaa.Pw Go.Proofs.Ytbncmffifbcbjaa.WiP Go.Proofs.Ytbncmffifbcbjaa.WiQ
set_option linter.unusedVariables false
set_option linter.unusedSimpArgs false
theorem note_two {n : Nt} (h : Right n) (hs : n.say = 2) : noteB n = n2 n ++ numB n.held.length ++ n.held.flatMap heldB := by
  have hb := h.bare
  rw [hs] at hb
  have hp : n.parts = [] := by simp [bareF, hasF, hasI, hasH, hasP, hasB] at hb; exact hb.1.2
  unfold noteB n6 n5 n4 n3
  rw [hs, hp]
  simp [hasH, hasP, hasB]
theorem note_four {n : Nt} (h : Right n) (hs : n.say = 4) : noteB n = n2 n ++ numB n.parts.length ++ n.parts.flatMap partB := by
  have hb := h.bare
  rw [hs] at hb
  have hp : n.held = [] := by simp [bareF, hasF, hasI, hasH, hasP, hasB] at hb; exact hb.1.2
  unfold noteB n6 n5 n4 n3
  rw [hs, hp]
  simp [hasH, hasP, hasB]
theorem note_seven {n : Nt} (h : Right n) (hs : n.say = 7) : noteB n = n2 n ++ textB n.bytes := by
  have hb := h.bare
  rw [hs] at hb
  have hp : n.held = [] ∧ n.parts = [] := by simp [bareF, hasF, hasI, hasH, hasP, hasB] at hb; exact ⟨hb.1, hb.2⟩
  unfold noteB n6 n5 n4 n3
  rw [hs, hp.1, hp.2]
  simp [hasH, hasP, hasB]
theorem note_else {n : Nt} (h : Right n) (h2 : n.say ≠ 2) (h4 : n.say ≠ 4) (h7 : n.say ≠ 7) : noteB n = n2 n := by
  have hb := h.bare
  have a1 : hasH n.say = false := by simp [hasH, h2]
  have a2 : hasP n.say = false := by simp [hasP, h4]
  have a3 : hasB n.say = false := by simp [hasB, h7]
  unfold bareF at hb
  rw [a1, a2, a3] at hb
  simp only [Bool.and_eq_true, Bool.false_or, List.isEmpty_iff] at hb
  unfold noteB n6 n5 n4 n3
  rw [a1, a2, a3, hb.1.1.2, hb.1.2]
  simp
/-- What lies by. -/
abbrev Lr (g : Nat) (n : Nt) (a : Ads) : List (Nat × Array Value × TypeId) := [(g, noteV n a, 27)]
theorem rn {w W : World} {g : Nat} {n : Nt} {a : Ads} {v : Value} {xs : List Int} {L : List (Nat × Array Value × TypeId)} (h : Pw w W L v xs) (hl : (g, noteV n a, 27) ∈ L) :
    W.heap[g]? = some (.cells (noteV n a) 27 (0, 0)) := h.get _ hl
theorem rNG {w W : World} {g : Nat} {n : Nt} {a : Ads} {v : Value} {xs : List Int} {L : List (Nat × Array Value × TypeId)} (h : Pw w W L v xs) (hl : (g, noteV n a, 27) ∈ L) :
    W.cell? ⟨g, 1, none⟩ = some (.string n.name) ∧ W.cell? ⟨g, 2, none⟩ = some (.int .i64 n.gen) := ⟨(note_cells (rn h hl)).2.1, (note_cells (rn h hl)).2.2.1⟩
theorem zeroS32 : ∃ Z : Array Value, Z.size = 32 ∧ ∀ W, (zeroValue 49).run Try.prog W = .ok (.agg Z) W := by
  have h : (Try.prog.info? 49).map (fun i => i.zero) = some (some (.agg (List.replicate 32 (Value.int .u8 0)).toArray)) := by kernel_rfl
  refine ⟨(List.replicate 32 (Value.int .u8 0)).toArray, rfl, fun W => ?_⟩
  obtain ⟨i, h1, h2⟩ := Option.map_eq_some_iff.1 h
  simp [zeroValue, typeInfo, Sem.run_bind, h1, h2]
theorem infoS32 (s : List Int) (h : s.length = 32) : (Try.prog.info? 49).map (·.size) = some (nums .u8 s).length := by
  rw [show (nums .u8 s).length = 32 by simp [nums, h]]
  kernel_rfl
set_option maxHeartbeats 8000000 in
set_option maxRecDepth 100000 in
theorem rput_calls (n : Nt) (a : Ads) (w : World) (h : NtC w n a) (hs : n.held.length ≤ 9223372036854775807) (hsp : n.parts.length ≤ 9223372036854775807) : Calls Try.prog 11 #[.agg (noteV n a)] w fun e w' => ∃ v, e = .returned (.tuple #[v, .int .i64 (putF n).1]) ∧ Kd.R (Kd.int .u8) 5 w' w.heap.size (fun _ => True) (v) ((putF n).2) ∧ Below w.heap.size w w' := by
  have hblk := heap_alloc_new w (.cells (noteV n a) 27)
  have HG := Aside0.mk hblk
  have HB := Aside0.mk (below_alloc (Below.refl w.heap.size w) (.cells (noteV n a) 27))
  have H := Aside0.mk h
  obtain ⟨c0, c1, c2, c3, c4, c5, c6⟩ := note_cells hblk
  generalize hw1 : w.alloc (.cells (noteV n a) 27) = w1 at *
  have HCK := Aside0.mk (rcheck_calls n a w1 (h.below (by rw [← hw1]; exact below_alloc (Below.refl _ _) _)) hs hsp)
  have hw1' : w.alloc (.cells #[.int .i64 n.say, .string n.name, .int .i64 n.gen, .int .i64 n.i, .slice a.ah n.held.length a.ch, .slice a.ap n.parts.length a.cp, .slice a.ab n.bytes.length a.cb] 27) = w1 := hw1
  simp only [noteV] at HCK
  clear h hblk hw1 hs hsp
  rw [show noteV n a = #[.int .i64 n.say, .string n.name, .int .i64 n.gen, .int .i64 n.i, .slice a.ah n.held.length a.ch, .slice a.ap n.parts.length a.cp, .slice a.ab n.bytes.length a.cb] from rfl]
  by_cases hz : checkF n = 0
  case neg =>
    have hp : putF n = (checkF n, []) := by unfold putF; rw [if_neg hz]
    have e1 : (checkF n != 0) = true := by simpa using hz
    rw [hp]
    clear hz hp
    go_enter Try.func11, Try.ntmps11
    go_wp2_with (go_at_call 9; (with_reducible refine (HCK.out).mono ?_); rintro e w' ⟨rfl, hb2⟩; have HB2 := Aside0.mk (below_then HB.out HB.out.size hb2); clear hb2)
    go_ret2
    exact ⟨_, rfl, Kd.R_nil _ _ _ _ _, HB2.out⟩
  have hp : putF n = (0, noteB n) := by unfold putF; rw [if_pos hz]
  have HR := Aside0.mk (right_of hz)
  rw [hz] at HCK
  rw [hp]
  have HPS : Aside0 (∀ x ∈ n.parts, x.s.length = 32) := ⟨fun x hx => by
    obtain ⟨j, hj, rfl⟩ := List.getElem_of_mem hx
    obtain ⟨_, _, ho, _⟩ := pt_at H.out.p j hj
    have := ho.n
    simpa [hj] using this⟩
  clear hz hp
  go_enter Try.func11, Try.ntmps11
  go_wp2_with fail
  refine HCK.out.mono ?_
  rintro e w2 ⟨rfl, hb2⟩
  have HG2 := (hb2.block _ (Array.getElem?_eq_some_iff.1 HG.out).1).trans HG.out
  have P0 : Aside0 (Pw w w2 (Lr w.heap.size n a) (.slice none 0 0) []) := ⟨Kd.R_nil _ _ _ _ _, below_then HB.out HB.out.size hb2, fun x hx => by
    obtain rfl := List.mem_singleton.1 hx
    exact ⟨by simp, HG2⟩⟩
  clear c0 c1 c2 c3 c4 c5 c6 hb2 HG2 HG HB HCK hw1'
  obtain ⟨c0, c1, c2, c3, c4, c5, c6⟩ := note_cells (rn P0.out List.mem_cons_self)
  go_wp2_with fail
  clear c0 c1 c2 c3 c4 c5 c6
  refine (rnum P0.out n.say (by have := HR.out.s1; omega) (by have := HR.out.s2; omega) (by simp)).mono ?_
  rintro e W1 ⟨v1, rfl, hp1⟩
  have P1 : Aside0 (Pw w W1 (Lr w.heap.size n a) v1 (n0 n)) := ⟨by simpa [n0] using hp1⟩
  clear hp1
  obtain ⟨c0, c1, c2, c3, c4, c5, c6⟩ := note_cells (rn P1.out List.mem_cons_self)
  go_upto_if 19 with (go_at_call 22; (with_reducible refine (hasFile_calls _ _).mono ?_); rintro e w' ⟨rfl, rfl⟩)
  go_cut [5] (fun s6 wx => Aside0 (Pw w wx (Lr w.heap.size n a) s6 (n1 n)))
  case first =>
    by_cases hf : hasF n.say = true
    · have HE : Aside0 (n1 n = n0 n ++ (numB n.name.size ++ strB n.name) ++ numB n.gen.toNat) := ⟨by unfold n1; rw [if_pos hf]; unfold textB; rw [strB_len]; simp only [List.append_assoc]⟩
      have hfo : NameOk n.name ∧ 1 ≤ n.gen ∧ n.gen ≤ 9007199254740991 := HR.out.f hf
      have HFO : Aside0 (n.name.size ≤ 32 ∧ 1 ≤ n.gen ∧ n.gen ≤ 9007199254740991) := ⟨⟨hfo.1.2.1, hfo.2⟩⟩
      clear hfo
      rw [hf]
      go_wp2_with fail
      have PD : Aside0 (Pw w W1.drew (Lr w.heap.size n a) v1 (n0 n)) := ⟨P1.out.drew⟩
      (refine Hd.startE (S := (fun X => X.cell? ⟨w.heap.size, 1, none⟩ = some (.string n.name) ∧ X.cell? ⟨w.heap.size, 2, none⟩ = some (.int .i64 n.gen))) 1000 (by kernel_rfl) (rNG PD.out List.mem_cons_self) (fun hHeld => ?_))
      (refine Hd.takeE (i := 0) (v := ?_) rfl rfl (by kernel_rfl) (by kernel_rfl) (by kernel_rfl) (by kernel_rfl) (by first | exact fun _ _ _ h => h | exact fun _ _ _ h => HQP.out (by decide) h) (Or.inl ⟨by rfl, ?_⟩) (by assumption) ?_; rotate_left; (focus (intro wS hS; (try go_split_ands); go_simp; all_goals (with_reducible rfl))); simp only [List.set_cons_zero, List.set_cons_succ, List.setIfInBounds_toArray]); (refine Hd.takeE (i := 1) (v := ?_) rfl rfl (by kernel_rfl) (by kernel_rfl) (by kernel_rfl) (by kernel_rfl) (by first | exact fun _ _ _ h => h | exact fun _ _ _ h => HQP.out (by decide) h) (Or.inl ⟨by rfl, ?_⟩) (by assumption) ?_; rotate_left; (focus (intro wS hS; (try go_split_ands); go_simp; all_goals (with_reducible rfl))); simp only [List.set_cons_zero, List.set_cons_succ, List.setIfInBounds_toArray]); (refine Hd.takeE (i := 2) (v := ?_) rfl rfl (by kernel_rfl) (by kernel_rfl) (by kernel_rfl) (by kernel_rfl) (by first | exact fun _ _ _ h => h | exact fun _ _ _ h => HQP.out (by decide) h) (Or.inl ⟨by rfl, ?_⟩) (by assumption) ?_; rotate_left; (focus (intro wS hS; (try go_split_ands); go_simp; all_goals (with_reducible rfl))); simp only [List.set_cons_zero, List.set_cons_succ, List.setIfInBounds_toArray]); (refine Hd.takeE (i := 4) (v := ?_) rfl rfl (by kernel_rfl) (by kernel_rfl) (by kernel_rfl) (by kernel_rfl) (by first | exact fun _ _ _ h => h | exact fun _ _ _ h => HQP.out (by decide) h) (Or.inl ⟨by rfl, ?_⟩) (by assumption) ?_; rotate_left; (focus (intro wS hS; (try go_split_ands); go_simp; all_goals (with_reducible rfl))); simp only [List.set_cons_zero, List.set_cons_succ, List.setIfInBounds_toArray]); (refine Hd.takeE (i := 5) (v := ?_) rfl rfl (by kernel_rfl) (by kernel_rfl) (by kernel_rfl) (by kernel_rfl) (by first | exact fun _ _ _ h => h | exact fun _ _ _ h => HQP.out (by decide) h) (Or.inl ⟨by rfl, ?_⟩) (by assumption) ?_; rotate_left; (focus (intro wS hS; (try go_split_ands); go_simp; all_goals (with_reducible rfl))); simp only [List.set_cons_zero, List.set_cons_succ, List.setIfInBounds_toArray])
      (refine Hd.readyE (rs := [3]) (by kernel_rfl) (by simp) ?_; refine Hd.AllE.cons (i := 3) rfl (fun K hK => ?_) Hd.AllE.nil; (go_simp; (go_at_call 28; (with_reducible refine (rtext PD.out n.name (by have := n0_len HR.out; have := HFO.out.1; omega)).mono ?_); rintro e w6 ⟨v6, rfl, h6⟩)); refine hK.out _ _ (rNG h6 List.mem_cons_self) (fun hHeld => ?_); clear hK K; (try simp only [Act.put, List.setIfInBounds_toArray, List.set_cons_zero, List.set_cons_succ]))
      have PE := Aside0.mk h6
      clear h6
      (refine Hd.readyE (rs := [6]) (by kernel_rfl) (by simp) ?_; refine Hd.AllE.cons (i := 6) rfl (fun K hK => ?_) Hd.AllE.nil; (go_simp; (go_at_call 27; (with_reducible refine (rnum PE.out n.gen (by have := HFO.out.2; omega) (by have := HFO.out.2; omega) (by have := n0_len HR.out; have := HFO.out.1; have := numB_len8 n.name.size (by omega); simp only [List.length_append, strB_len]; omega)).mono ?_); rintro e w7 ⟨v7, rfl, h7⟩)); refine hK.out _ _ (rNG h7 List.mem_cons_self) (fun hHeld => ?_); clear hK K; (try simp only [Act.put, List.setIfInBounds_toArray, List.set_cons_zero, List.set_cons_succ]))
      have PF := Aside0.mk h7
      clear h7
      (refine Hd.takeE (i := 7) (v := ?_) rfl rfl (by kernel_rfl) (by kernel_rfl) (by kernel_rfl) (by kernel_rfl) (by first | exact fun _ _ _ h => h | exact fun _ _ _ h => HQP.out (by decide) h) (Or.inl ⟨by rfl, ?_⟩) (by assumption) ?_; rotate_left; (focus (intro wS hS; (try go_split_ands); go_simp; all_goals (with_reducible rfl))); simp only [List.set_cons_zero, List.set_cons_succ, List.setIfInBounds_toArray])
      (refine Hd.endE (by kernel_rfl) ?_ _)
      go_wp2_with fail
      go_meet
      exact ⟨Eq.mpr (congrArg (Pw _ _ _ _) HE.out) PF.out⟩
    · have HE : Aside0 (n1 n = n0 n) := ⟨by unfold n1; rw [if_neg hf, List.append_nil]⟩
      go_wp2_with fail
      go_meet
      exact ⟨by rw [HE.out]; exact P1.out⟩
  case rest =>
  have P2 := hcut
  clear hcut
  clear c0 c1 c2 c3 c4 c5 c6
  obtain ⟨c0, c1, c2, c3, c4, c5, c6⟩ := note_cells (rn P2.out List.mem_cons_self)
  go_upto_if 29 with (go_at_call 23; (with_reducible refine (hasI_calls _ _).mono ?_); rintro e w' ⟨rfl, rfl⟩)
  go_cut [5] (fun s6 wx => Aside0 (Pw w wx (Lr w.heap.size n a) s6 (n2 n)))
  case first =>
    by_cases hf : hasI n.say = true
    · have HE : Aside0 (n2 n = n1 n ++ numB (n.i).toNat) := ⟨by unfold n2; rw [if_pos hf]; try rfl⟩
      rw [hf]
      go_wp2_with fail
      refine (rnum P2.out (n.i) (HR.out.i0) (by have := HR.out.i1; omega) (by have := n1_len HR.out; omega)).mono ?_
      rintro e w9 ⟨v9, rfl, h9⟩
      go_wp2_with fail
      go_meet
      exact ⟨Eq.mpr (congrArg (Pw _ _ _ _) HE.out) h9⟩
    · have HE : Aside0 (n2 n = n1 n) := ⟨by unfold n2; rw [if_neg hf, List.append_nil]⟩
      rw [show hasI n.say = false by simpa using hf]
      go_wp2_with fail
      go_meet
      exact ⟨by rw [HE.out]; exact P2.out⟩
  case rest =>
  have P3 := hcut
  clear hcut
  clear c0 c1 c2 c3 c4 c5 c6
  obtain ⟨c0, c1, c2, c3, c4, c5, c6⟩ := note_cells (rn P3.out List.mem_cons_self)
  by_cases hs2 : n.say = 2
  · have g2 : (n.say == 2) = true := by simp [hs2]
    have HN2 := Aside0.mk (note_two HR.out hs2)
    clear hs2
    go_wp2_with fail
    refine (rnum P3.out (n.held.length : Int) (by omega) (by have := HR.out.h; omega) (by have := n2_len HR.out; omega)).mono ?_
    rintro e w9 ⟨v9, rfl, h9⟩
    rw [Int.toNat_natCast] at h9
    have P4 := Aside0.mk h9
    clear h9 c0 c1 c2 c3 c4 c5 c6
    have HL3 : Aside0 ((numB n.held.length).length ≤ 8) := ⟨numB_len8 _ (by have := HR.out.h; omega)⟩
    obtain ⟨c0, c1, c2, c3, c4, c5, c6⟩ := note_cells (rn P4.out List.mem_cons_self)
    go_wp2_with fail
    have hh64 := HR.out.h
    go_loopg [5, 6] (n.held.length + 1) (fun gk v6 v52 wr => ∃ i : Nat, v52 = .int .i64 i ∧ i ≤ n.held.length ∧ Aside0 (gk = n.held.length - i + 1) ∧ Aside0 (Pw w wr (Lr w.heap.size n a) v6 (n2 n ++ numB n.held.length ++ (n.held.take i).flatMap heldB)))
    case atStart => exact ⟨0, rfl, Nat.zero_le _, ⟨rfl⟩, ⟨by simpa using P4.out⟩⟩
    case round =>
      clear c0 c1 c2 c3 c4 c5 c6
      obtain ⟨i, rfl, hi, HG, P5⟩ := hrel
      obtain ⟨c0, c1, c2, c3, c4, c5, c6⟩ := note_cells (rn P5.out List.mem_cons_self)
      by_cases hlt : i < n.held.length
      · have h1 : decide ((i : Int) < (n.held.length : Int)) = true := by simp; omega
        have hp1 : (0 : Int) ≤ (i : Int) := by omega
        have hp2 : (i : Int) < (n.held.length : Int) := by omega
        obtain ⟨ad, had, hok, -, -⟩ := hl_at H.out.h i hlt
        have HCE : Aside0 (∀ {X : World} {v : Value} {xs : List Int}, Pw w X (Lr w.heap.size n a) v xs → X.cell? ⟨w.heap.size, 4, none⟩ = some (.slice (some ad) n.held.length a.ch) ∧ X.cell? (ad.add (i * 2)) = some (.string (n.held.getD i default).name) ∧ X.cell? ⟨(ad.add (i * 2)).block, (ad.add (i * 2)).off + 1, none⟩ = some (.int .i64 (n.held.getD i default).gen)) := ⟨fun hP => by
          obtain ⟨ad', had', _, b0, b1⟩ := hl_at (Kd.C_below H.out.h hP.b) i hlt
          rw [had] at had'
          obtain rfl : ad = ad' := by injection had'
          exact ⟨by rw [← had]; exact (note_cells (rn hP List.mem_cons_self)).2.2.2.2.1, b0, b1⟩⟩
        have hmem : n.held.getD i default ∈ n.held := by
          rw [show n.held.getD i default = n.held[i] from by simp [hlt]]
          exact List.getElem_mem _
        have HFO : Aside0 ((n.held.getD i default).name.size ≤ 32 ∧ 1 ≤ (n.held.getD i default).gen ∧ (n.held.getD i default).gen ≤ 9007199254740991) := ⟨by
          have hf : NameOk (n.held.getD i default).name ∧ 1 ≤ (n.held.getD i default).gen ∧ (n.held.getD i default).gen ≤ 9007199254740991 := HR.out.hs _ hmem
          exact ⟨hf.1.2.1, hf.2⟩⟩
        have HE : Aside0 ((n.held.take (i + 1)).flatMap heldB = (n.held.take i).flatMap heldB ++ ((numB (n.held.getD i default).name.size ++ strB (n.held.getD i default).name) ++ numB (n.held.getD i default).gen.toNat)) := ⟨by
          rw [List.take_add_one, List.getElem?_eq_getElem hlt, List.flatMap_append, show n.held.getD i default = n.held[i] from by simp [hlt]]
          simp [heldB, textB, strB_len]⟩
        have HLi : Aside0 (((n.held.take i).flatMap heldB).length ≤ 48 * 64) := ⟨by
          have h1 := flat_len heldB 48 (n.held.take i) (fun x hx => held_len (HR.out.hs x (List.mem_of_mem_take hx)))
          rw [List.length_take] at h1
          have : 48 * min i n.held.length ≤ 48 * 64 := Nat.mul_le_mul_left _ (by omega)
          omega⟩
        generalize n.held.getD i default = k at *
        clear hok hmem had
        obtain ⟨knm, kgen⟩ := k
        simp only at *
        go_wp2_with fail
        have PD : Aside0 (Pw w wr.drew (Lr w.heap.size n a) u5 (n2 n ++ numB n.held.length ++ (n.held.take i).flatMap heldB)) := ⟨P5.out.drew⟩
        clear c0 c1 c2 c3 c4 c5 c6
        (refine Hd.startE (S := (fun X => X.cell? ⟨w.heap.size, 4, none⟩ = some (.slice (some ad) n.held.length a.ch) ∧ X.cell? (ad.add (i * 2)) = some (.string knm) ∧ X.cell? ⟨(ad.add (i * 2)).block, (ad.add (i * 2)).off + 1, none⟩ = some (.int .i64 kgen))) 1000 (by kernel_rfl) (HCE.out PD.out) (fun hHeld => ?_))
        (refine Hd.takeE (i := 0) (v := ?_) rfl rfl (by kernel_rfl) (by kernel_rfl) (by kernel_rfl) (by kernel_rfl) (by first | exact fun _ _ _ h => h | exact fun _ _ _ h => HQP.out (by decide) h) (Or.inl ⟨by rfl, ?_⟩) (by assumption) ?_; rotate_left; (focus (intro wS hS; (try go_split_ands); go_simp; all_goals (with_reducible rfl))); simp only [List.set_cons_zero, List.set_cons_succ, List.setIfInBounds_toArray]); (refine Hd.takeE (i := 1) (v := ?_) rfl rfl (by kernel_rfl) (by kernel_rfl) (by kernel_rfl) (by kernel_rfl) (by first | exact fun _ _ _ h => h | exact fun _ _ _ h => HQP.out (by decide) h) (Or.inl ⟨by rfl, ?_⟩) (by assumption) ?_; rotate_left; (focus (intro wS hS; (try go_split_ands); go_simp; all_goals (with_reducible rfl))); simp only [List.set_cons_zero, List.set_cons_succ, List.setIfInBounds_toArray]); (refine Hd.takeE (i := 2) (v := ?_) rfl rfl (by kernel_rfl) (by kernel_rfl) (by kernel_rfl) (by kernel_rfl) (by first | exact fun _ _ _ h => h | exact fun _ _ _ h => HQP.out (by decide) h) (Or.inl ⟨by rfl, ?_⟩) (by assumption) ?_; rotate_left; (focus (intro wS hS; (try go_split_ands); go_simp; all_goals (with_reducible rfl))); simp only [List.set_cons_zero, List.set_cons_succ, List.setIfInBounds_toArray]); (refine Hd.takeE (i := 3) (v := ?_) rfl rfl (by kernel_rfl) (by kernel_rfl) (by kernel_rfl) (by kernel_rfl) (by first | exact fun _ _ _ h => h | exact fun _ _ _ h => HQP.out (by decide) h) (Or.inl ⟨by rfl, ?_⟩) (by assumption) ?_; rotate_left; (focus (intro wS hS; (try go_split_ands); go_simp; all_goals (with_reducible rfl))); simp only [List.set_cons_zero, List.set_cons_succ, List.setIfInBounds_toArray]); (refine Hd.takeE (i := 4) (v := ?_) rfl rfl (by kernel_rfl) (by kernel_rfl) (by kernel_rfl) (by kernel_rfl) (by first | exact fun _ _ _ h => h | exact fun _ _ _ h => HQP.out (by decide) h) (Or.inl ⟨by rfl, ?_⟩) (by assumption) ?_; rotate_left; (focus (intro wS hS; (try go_split_ands); go_simp; all_goals (with_reducible rfl))); simp only [List.set_cons_zero, List.set_cons_succ, List.setIfInBounds_toArray]); (refine Hd.takeE (i := 5) (v := ?_) rfl rfl (by kernel_rfl) (by kernel_rfl) (by kernel_rfl) (by kernel_rfl) (by first | exact fun _ _ _ h => h | exact fun _ _ _ h => HQP.out (by decide) h) (Or.inl ⟨by rfl, ?_⟩) (by assumption) ?_; rotate_left; (focus (intro wS hS; (try go_split_ands); go_simp; all_goals (with_reducible rfl))); simp only [List.set_cons_zero, List.set_cons_succ, List.setIfInBounds_toArray]); (refine Hd.takeE (i := 6) (v := ?_) rfl rfl (by kernel_rfl) (by kernel_rfl) (by kernel_rfl) (by kernel_rfl) (by first | exact fun _ _ _ h => h | exact fun _ _ _ h => HQP.out (by decide) h) (Or.inl ⟨by rfl, ?_⟩) (by assumption) ?_; rotate_left; (focus (intro wS hS; (try go_split_ands); go_simp; all_goals (with_reducible rfl))); simp only [List.set_cons_zero, List.set_cons_succ, List.setIfInBounds_toArray]); (refine Hd.takeE (i := 8) (v := ?_) rfl rfl (by kernel_rfl) (by kernel_rfl) (by kernel_rfl) (by kernel_rfl) (by first | exact fun _ _ _ h => h | exact fun _ _ _ h => HQP.out (by decide) h) (Or.inl ⟨by rfl, ?_⟩) (by assumption) ?_; rotate_left; (focus (intro wS hS; (try go_split_ands); go_simp; all_goals (with_reducible rfl))); simp only [List.set_cons_zero, List.set_cons_succ, List.setIfInBounds_toArray]); (refine Hd.takeE (i := 9) (v := ?_) rfl rfl (by kernel_rfl) (by kernel_rfl) (by kernel_rfl) (by kernel_rfl) (by first | exact fun _ _ _ h => h | exact fun _ _ _ h => HQP.out (by decide) h) (Or.inl ⟨by rfl, ?_⟩) (by assumption) ?_; rotate_left; (focus (intro wS hS; (try go_split_ands); go_simp; all_goals (with_reducible rfl))); simp only [List.set_cons_zero, List.set_cons_succ, List.setIfInBounds_toArray]); (refine Hd.takeE (i := 10) (v := ?_) rfl rfl (by kernel_rfl) (by kernel_rfl) (by kernel_rfl) (by kernel_rfl) (by first | exact fun _ _ _ h => h | exact fun _ _ _ h => HQP.out (by decide) h) (Or.inl ⟨by rfl, ?_⟩) (by assumption) ?_; rotate_left; (focus (intro wS hS; (try go_split_ands); go_simp; all_goals (with_reducible rfl))); simp only [List.set_cons_zero, List.set_cons_succ, List.setIfInBounds_toArray]); (refine Hd.takeE (i := 11) (v := ?_) rfl rfl (by kernel_rfl) (by kernel_rfl) (by kernel_rfl) (by kernel_rfl) (by first | exact fun _ _ _ h => h | exact fun _ _ _ h => HQP.out (by decide) h) (Or.inl ⟨by rfl, ?_⟩) (by assumption) ?_; rotate_left; (focus (intro wS hS; (try go_split_ands); go_simp; all_goals (with_reducible rfl))); simp only [List.set_cons_zero, List.set_cons_succ, List.setIfInBounds_toArray]); (refine Hd.takeE (i := 12) (v := ?_) rfl rfl (by kernel_rfl) (by kernel_rfl) (by kernel_rfl) (by kernel_rfl) (by first | exact fun _ _ _ h => h | exact fun _ _ _ h => HQP.out (by decide) h) (Or.inl ⟨by rfl, ?_⟩) (by assumption) ?_; rotate_left; (focus (intro wS hS; (try go_split_ands); go_simp; all_goals (with_reducible rfl))); simp only [List.set_cons_zero, List.set_cons_succ, List.setIfInBounds_toArray]); (refine Hd.takeE (i := 13) (v := ?_) rfl rfl (by kernel_rfl) (by kernel_rfl) (by kernel_rfl) (by kernel_rfl) (by first | exact fun _ _ _ h => h | exact fun _ _ _ h => HQP.out (by decide) h) (Or.inl ⟨by rfl, ?_⟩) (by assumption) ?_; rotate_left; (focus (intro wS hS; (try go_split_ands); go_simp; all_goals (with_reducible rfl))); simp only [List.set_cons_zero, List.set_cons_succ, List.setIfInBounds_toArray])
        (refine Hd.readyE (rs := [7]) (by kernel_rfl) (by simp) ?_; refine Hd.AllE.cons (i := 7) rfl (fun K hK => ?_) Hd.AllE.nil; (go_simp; (go_at_call 28; (with_reducible refine (rtext PD.out knm (by have := n2_len HR.out; have := HFO.out.1; have := HL3.out; have := HLi.out; simp only [List.length_append]; omega)).mono ?_); rintro e w6 ⟨v6, rfl, h6⟩)); refine hK.out _ _ (HCE.out h6) (fun hHeld => ?_); clear hK K; (try simp only [Act.put, List.setIfInBounds_toArray, List.set_cons_zero, List.set_cons_succ]))
        have PE := Aside0.mk h6
        clear h6
        (refine Hd.readyE (rs := [14]) (by kernel_rfl) (by simp) ?_; refine Hd.AllE.cons (i := 14) rfl (fun K hK => ?_) Hd.AllE.nil; (go_simp; (go_at_call 27; (with_reducible refine (rnum PE.out kgen (by have := HFO.out.2; omega) (by have := HFO.out.2; omega) (by have := n2_len HR.out; have := HFO.out.1; have := HL3.out; have := HLi.out; have := numB_len8 knm.size (by omega); simp only [List.length_append, strB_len]; omega)).mono ?_); rintro e w7 ⟨v7, rfl, h7⟩)); refine hK.out _ _ (HCE.out h7) (fun hHeld => ?_); clear hK K; (try simp only [Act.put, List.setIfInBounds_toArray, List.set_cons_zero, List.set_cons_succ]))
        have PF := Aside0.mk h7
        clear h7
        (refine Hd.takeE (i := 15) (v := ?_) rfl rfl (by kernel_rfl) (by kernel_rfl) (by kernel_rfl) (by kernel_rfl) (by first | exact fun _ _ _ h => h | exact fun _ _ _ h => HQP.out (by decide) h) (Or.inl ⟨by rfl, ?_⟩) (by assumption) ?_; rotate_left; (focus (intro wS hS; (try go_split_ands); go_simp; all_goals (with_reducible rfl))); simp only [List.set_cons_zero, List.set_cons_succ, List.setIfInBounds_toArray])
        (refine Hd.endE (by kernel_rfl) ?_ _)
        go_wp2_with fail
        go_roundg (n.held.length - (i + 1) + 1)
        case measure => have := HG.out; omega
        case rel => exact ⟨i + 1, by go_num, by omega, ⟨rfl⟩, ⟨by rw [HE.out]; have := PF.out; simpa only [List.append_assoc] using this⟩⟩
      · have h1 : decide ((i : Int) < (n.held.length : Int)) = false := by simp; omega
        obtain rfl : i = n.held.length := by omega
        clear hlt hi
        go_wp2_with fail
        go_ret2
        exact ⟨_, rfl, by rw [HN2.out]; have := P5.out.own; rwa [List.take_length] at this, P5.out.b⟩
  have g2 : (n.say == 2) = false := by simp [hs2]
  by_cases hs4 : n.say = 4
  · have g4 : (n.say == 4) = true := by simp [hs4]
    have HN2 := Aside0.mk (note_four HR.out hs4)
    clear hs2 hs4
    go_wp2_with fail
    refine (rnum P3.out (n.parts.length : Int) (by omega) (by have := HR.out.p; omega) (by have := n2_len HR.out; omega)).mono ?_
    rintro e w9 ⟨v9, rfl, h9⟩
    rw [Int.toNat_natCast] at h9
    have P4 := Aside0.mk h9
    clear h9 c0 c1 c2 c3 c4 c5 c6
    have HL3 : Aside0 ((numB n.parts.length).length ≤ 8) := ⟨numB_len8 _ (by have := HR.out.p; omega)⟩
    obtain ⟨c0, c1, c2, c3, c4, c5, c6⟩ := note_cells (rn P4.out List.mem_cons_self)
    go_wp2_with fail
    have hp256 := HR.out.p
    go_loopg [5, 7] (n.parts.length + 1) (fun gk v6 v52 wr => ∃ i : Nat, v52 = .int .i64 i ∧ i ≤ n.parts.length ∧ Aside0 (gk = n.parts.length - i + 1) ∧ Aside0 (Pw w wr (Lr w.heap.size n a) v6 (n2 n ++ numB n.parts.length ++ (n.parts.take i).flatMap partB)))
    case atStart => exact ⟨0, rfl, Nat.zero_le _, ⟨rfl⟩, ⟨by simpa using P4.out⟩⟩
    case round =>
      clear c0 c1 c2 c3 c4 c5 c6
      obtain ⟨i, rfl, hi, HG, P5⟩ := hrel
      obtain ⟨c0, c1, c2, c3, c4, c5, c6⟩ := note_cells (rn P5.out List.mem_cons_self)
      by_cases hlt : i < n.parts.length
      · have h1 : decide ((i : Int) < (n.parts.length : Int)) = true := by simp; omega
        have hp1 : (0 : Int) ≤ (i : Int) := by omega
        have hp2 : (i : Int) < (n.parts.length : Int) := by omega
        obtain ⟨ad, had, hok, -⟩ := pt_at H.out.p i hlt
        have HRA : Aside0 (∀ {X : World}, Below w.heap.size w X → Hd.RangeA X (ad.add (i * 33)) (n.parts.getD i default).cells) := ⟨fun hb => by
          obtain ⟨ad', had', _, b0⟩ := pt_at (Kd.C_below H.out.p hb) i hlt
          rw [had] at had'
          obtain rfl : ad = ad' := by injection had'
          exact b0⟩
        have HCE : Aside0 (∀ {X : World} {v : Value} {xs : List Int} {L : List (Nat × Array Value × TypeId)}, Pw w X L v xs → (w.heap.size, noteV n a, 27) ∈ L → X.cell? ⟨w.heap.size, 5, none⟩ = some (.slice (some ad) n.parts.length a.cp) ∧ X.cell? ⟨(ad.add (i * 33)).block, (ad.add (i * 33)).off + 32, none⟩ = some (.int .i64 (n.parts.getD i default).len)) := ⟨fun hP hl => ⟨by rw [← had]; exact (note_cells (rn hP hl)).2.2.2.2.2.1, part_len hok (HRA.out hP.b)⟩⟩
        have hmem : n.parts.getD i default ∈ n.parts := by
          rw [show n.parts.getD i default = n.parts[i] from by simp [hlt]]
          exact List.getElem_mem _
        have HLN : Aside0 (1 ≤ (n.parts.getD i default).len ∧ (n.parts.getD i default).len ≤ 512) := ⟨HR.out.ps _ hmem⟩
        have HE : Aside0 ((n.parts.take (i + 1)).flatMap partB = (n.parts.take i).flatMap partB ++ ((n.parts.getD i default).s ++ numB (n.parts.getD i default).len.toNat)) := ⟨by
          rw [List.take_add_one, List.getElem?_eq_getElem hlt, List.flatMap_append, show n.parts.getD i default = n.parts[i] from by simp [hlt]]
          simp [partB]⟩
        have HLi : Aside0 (((n.parts.take i).flatMap partB).length ≤ 40 * 256) := ⟨by
          have h1 := flat_len partB 40 (n.parts.take i) (fun x hx => part_blen (HPS.out x (List.mem_of_mem_take hx)) (HR.out.ps x (List.mem_of_mem_take hx)))
          rw [List.length_take] at h1
          have : 40 * min i n.parts.length ≤ 40 * 256 := Nat.mul_le_mul_left _ (by omega)
          omega⟩
        have HRS : Aside0 (∀ {X : World}, Below w.heap.size w X → Hd.RangeA X (ad.add (i * 33)) (nums .u8 (n.parts.getD i default).s)) := ⟨fun hb j v hj => HRA.out hb j v (by
          show (nums .u8 (n.parts.getD i default).s ++ _)[j]? = some v
          rw [List.getElem?_append_left (List.getElem?_eq_some_iff.1 hj).1]
          exact hj)⟩
        have HSL := Aside0.mk hok.n
        have hc5 := (HCE.out P5.out List.mem_cons_self).1
        generalize n.parts.getD i default = k at *
        clear hok hmem had HRA c5
        generalize k.len = kl at *
        generalize k.s = ks at *
        clear k
        obtain ⟨Z, hz, hzv⟩ := zeroS32
        have HZV := Aside0.mk hzv
        have HUS := Aside0.mk Try.underlying49
        have HIS := Aside0.mk (infoS32 ks HSL.out)
        have HZC := Aside0.mk (show Z.size = (nums .u8 ks).toArray.size by rw [hz]; simp [nums, HSL.out])
        have HIS2 := Aside0.mk (show (Try.prog.info? 49).map (·.size) = some (nums .u8 ks).toArray.size by rw [List.size_toArray]; exact HIS.out)
        have HON := Aside0.mk (show (nums .u8 ks).toArray.all (·.oneCell') = true from all_oneCell_toArray (fun v hv => by obtain ⟨x, _, rfl⟩ := List.mem_map.1 hv; rfl))
        have HSC : Aside0 (∀ (W : World) (g : Nat), W.heap[g]? = some (.cells (nums .u8 ks).toArray 49 (0, 0)) → (Kd.int .u8).C W (some ⟨g, 0, none⟩) 32 ks) := ⟨fun W g h => by have := row_C h (by rw [HSL.out]; decide); rwa [HSL.out] at this⟩
        clear hz hzv
        generalize hC : (nums .u8 ks).toArray = C at *
        have HCC := Aside0.mk hC
        clear hC
        go_wp2_with (first
          | ((with_reducible refine gate_ (.load 49 (.tmp 83)) rfl ?_); refine Hd.wpList_load_any rfl _ (.tmp 83) rfl _ rfl (nums .u8 ks) _ (HRS.out P5.out.b) HUS.out rfl HIS.out ?_; rw [HCC.out])
          | ((with_reducible refine gate_ (.alloc 49) rfl ?_); refine Hd.step_run rfl (Hd.exec_alloc _ rfl _ (HZV.out _)) ?_; refine Hd.wpList_store_new rfl _ _ _ rfl _ Z C rfl rfl HZC.out HIS2.out HON.out ?_))
        obtain ⟨wa, hwa⟩ : ∃ wa, wa = wr.alloc (.cells C 49) := ⟨_, rfl⟩
        have PD : Aside0 (Pw w wa.drew ((wr.heap.size, C, 49) :: Lr w.heap.size n a) u5 (n2 n ++ numB n.parts.length ++ (n.parts.take i).flatMap partB)) := ⟨by rw [hwa]; exact (P5.out.lit C (t := 49) (by decide)).drew⟩
        obtain ⟨wd, hwd⟩ : ∃ wd, wd = wa.drew := ⟨_, rfl⟩
        rw [← hwd] at PD
        rw [← hwa]
        clear hwa
        clear c0 c1 c2 c3 c4 hc5 c6
        simp only [Act.put, List.setIfInBounds_toArray, List.set_cons_zero, List.set_cons_succ]
        (refine Hd.startE (S := (fun X => X.cell? ⟨w.heap.size, 5, none⟩ = some (.slice (some ad) n.parts.length a.cp) ∧ X.cell? ⟨(ad.add (i * 33)).block, (ad.add (i * 33)).off + 32, none⟩ = some (.int .i64 kl))) 1000 (by kernel_rfl) ((by rw [← hwd]; exact HCE.out PD.out (List.mem_cons_of_mem _ List.mem_cons_self))) (fun hHeld => ?_))
        rw [← hwd]
        rw [← hwd] at hHeld
        clear hwd
        (refine Hd.takeE (i := 0) (v := ?_) rfl rfl (by kernel_rfl) (by kernel_rfl) (by kernel_rfl) (by kernel_rfl) (by first | exact fun _ _ _ h => h | exact fun _ _ _ h => HQP.out (by decide) h) (Or.inl ⟨by rfl, ?_⟩) (by assumption) ?_; rotate_left; (focus (intro wS hS; (try go_split_ands); go_simp; all_goals (with_reducible rfl))); simp only [List.set_cons_zero, List.set_cons_succ, List.setIfInBounds_toArray]); (refine Hd.takeE (i := 1) (v := ?_) rfl rfl (by kernel_rfl) (by kernel_rfl) (by kernel_rfl) (by kernel_rfl) (by first | exact fun _ _ _ h => h | exact fun _ _ _ h => HQP.out (by decide) h) (Or.inl ⟨by rfl, ?_⟩) (by assumption) ?_; rotate_left; (focus (intro wS hS; (try go_split_ands); go_simp; all_goals (with_reducible rfl))); simp only [List.set_cons_zero, List.set_cons_succ, List.setIfInBounds_toArray]); (refine Hd.takeE (i := 3) (v := ?_) rfl rfl (by kernel_rfl) (by kernel_rfl) (by kernel_rfl) (by kernel_rfl) (by first | exact fun _ _ _ h => h | exact fun _ _ _ h => HQP.out (by decide) h) (Or.inl ⟨by rfl, ?_⟩) (by assumption) ?_; rotate_left; (focus (intro wS hS; (try go_split_ands); go_simp; all_goals (with_reducible rfl))); simp only [List.set_cons_zero, List.set_cons_succ, List.setIfInBounds_toArray]); (refine Hd.takeE (i := 4) (v := ?_) rfl rfl (by kernel_rfl) (by kernel_rfl) (by kernel_rfl) (by kernel_rfl) (by first | exact fun _ _ _ h => h | exact fun _ _ _ h => HQP.out (by decide) h) (Or.inl ⟨by rfl, ?_⟩) (by assumption) ?_; rotate_left; (focus (intro wS hS; (try go_split_ands); go_simp; all_goals (with_reducible rfl))); simp only [List.set_cons_zero, List.set_cons_succ, List.setIfInBounds_toArray]); (refine Hd.takeE (i := 5) (v := ?_) rfl rfl (by kernel_rfl) (by kernel_rfl) (by kernel_rfl) (by kernel_rfl) (by first | exact fun _ _ _ h => h | exact fun _ _ _ h => HQP.out (by decide) h) (Or.inl ⟨by rfl, ?_⟩) (by assumption) ?_; rotate_left; (focus (intro wS hS; (try go_split_ands); go_simp; all_goals (with_reducible rfl))); simp only [List.set_cons_zero, List.set_cons_succ, List.setIfInBounds_toArray]); (refine Hd.takeE (i := 6) (v := ?_) rfl rfl (by kernel_rfl) (by kernel_rfl) (by kernel_rfl) (by kernel_rfl) (by first | exact fun _ _ _ h => h | exact fun _ _ _ h => HQP.out (by decide) h) (Or.inl ⟨by rfl, ?_⟩) (by assumption) ?_; rotate_left; (focus (intro wS hS; (try go_split_ands); go_simp; all_goals (with_reducible rfl))); simp only [List.set_cons_zero, List.set_cons_succ, List.setIfInBounds_toArray]); (refine Hd.takeE (i := 7) (v := ?_) rfl rfl (by kernel_rfl) (by kernel_rfl) (by kernel_rfl) (by kernel_rfl) (by first | exact fun _ _ _ h => h | exact fun _ _ _ h => HQP.out (by decide) h) (Or.inl ⟨by rfl, ?_⟩) (by assumption) ?_; rotate_left; (focus (intro wS hS; (try go_split_ands); go_simp; all_goals (with_reducible rfl))); simp only [List.set_cons_zero, List.set_cons_succ, List.setIfInBounds_toArray]); (refine Hd.takeE (i := 8) (v := ?_) rfl rfl (by kernel_rfl) (by kernel_rfl) (by kernel_rfl) (by kernel_rfl) (by first | exact fun _ _ _ h => h | exact fun _ _ _ h => HQP.out (by decide) h) (Or.inl ⟨by rfl, ?_⟩) (by assumption) ?_; rotate_left; (focus (intro wS hS; (try go_split_ands); go_simp; all_goals (with_reducible rfl))); simp only [List.set_cons_zero, List.set_cons_succ, List.setIfInBounds_toArray])
        (refine Hd.readyE (rs := [2]) (by kernel_rfl) (by simp) ?_; refine Hd.AllE.cons (i := 2) rfl (fun K hK => ?_) Hd.AllE.nil; (refine Hd.step_of_list rfl ?_; refine app (Kd.int .u8) (flat_int .u8) w.heap.size (w0 := wd) (.tmp 85) (.tmp 86) 25 5 (.int .u8 0) 1 rfl rfl Try.underlying25 infoU8 rfl (by decide) (by decide) _ (n2 n ++ numB n.parts.length ++ (n.parts.take i).flatMap partB) ks (some ⟨wr.heap.size, 0, none⟩) 32 32 (by rfl) (by first | rfl | simp [Act.eval]) PD.out.own (HSC.out _ _ (PD.out.get _ List.mem_cons_self)) (Below.refl _ _) PD.out.b.size (by have := n2_len HR.out; have := HL3.out; have := HLi.out; simp only [List.length_append]; omega) ?_; intro v3 w4 ho3 hb3 hg3 hat3; refine wpList_nil ?_); refine hK.out _ _ (HCE.out (PD.out.grew ho3 hb3 ⟨hg3, hat3⟩) (List.mem_cons_of_mem _ List.mem_cons_self)) (fun hHeld => ?_); clear hK K; (try simp only [Act.put, List.setIfInBounds_toArray, List.set_cons_zero, List.set_cons_succ]))
        have PA := Aside0.mk (PD.out.grew ho3 hb3 ⟨hg3, hat3⟩)
        clear ho3 hb3 hg3 hat3
        (refine Hd.readyE (rs := [9]) (by kernel_rfl) (by simp) ?_; refine Hd.AllE.cons (i := 9) rfl (fun K hK => ?_) Hd.AllE.nil; (go_simp; (go_at_call 27; (with_reducible refine (rnum PA.out kl (by have := HLN.out.1; omega) (by have := HLN.out.2; omega) (by have := n2_len HR.out; have := HL3.out; have := HLi.out; have := HSL.out; simp only [List.length_append]; omega)).mono ?_); rintro e w6 ⟨v6, rfl, h6⟩)); refine hK.out _ _ (HCE.out h6 (List.mem_cons_of_mem _ List.mem_cons_self)) (fun hHeld => ?_); clear hK K; (try simp only [Act.put, List.setIfInBounds_toArray, List.set_cons_zero, List.set_cons_succ]))
        have PE := Aside0.mk (h6.less (L1 := Lr w.heap.size n a) (fun x hx => List.mem_cons_of_mem _ hx))
        clear h6
        (refine Hd.takeE (i := 10) (v := ?_) rfl rfl (by kernel_rfl) (by kernel_rfl) (by kernel_rfl) (by kernel_rfl) (by first | exact fun _ _ _ h => h | exact fun _ _ _ h => HQP.out (by decide) h) (Or.inl ⟨by rfl, ?_⟩) (by assumption) ?_; rotate_left; (focus (intro wS hS; (try go_split_ands); go_simp; all_goals (with_reducible rfl))); simp only [List.set_cons_zero, List.set_cons_succ, List.setIfInBounds_toArray])
        (refine Hd.endE (by kernel_rfl) ?_ _)
        go_wp2_with fail
        go_roundg (n.parts.length - (i + 1) + 1)
        case measure => have := HG.out; omega
        case rel => exact ⟨i + 1, by go_num, by omega, ⟨rfl⟩, ⟨by rw [HE.out]; have := PE.out; simpa only [List.append_assoc] using this⟩⟩
      · have h1 : decide ((i : Int) < (n.parts.length : Int)) = false := by simp; omega
        obtain rfl : i = n.parts.length := by omega
        clear hlt hi
        go_wp2_with fail
        go_ret2
        exact ⟨_, rfl, by rw [HN2.out]; have := P5.out.own; rwa [List.take_length] at this, P5.out.b⟩
  have g4 : (n.say == 4) = false := by simp [hs4]
  by_cases hs7 : n.say = 7
  · have g7 : (n.say == 7) = true := by simp [hs7]
    have HN2 := Aside0.mk (note_seven HR.out hs7)
    have hcv := conv_read (P := Try.prog) (c := a.cb) 25 9 5 Try.underlying25 Try.underlying5 Try.underlying9 (Kd.C_below H.out.b P3.out.b) rfl
    have HSZ : Aside0 ((strOfNums n.bytes).size = n.bytes.length) := ⟨by rw [← strB_len, strB_strOf H.out.by_]⟩
    clear hs2 hs4 hs7
    go_wp2_with fail
    refine (rtext P3.out (strOfNums n.bytes) (by have := n2_len HR.out; have := HR.out.b; have := HSZ.out; omega)).mono ?_
    rintro e w9 ⟨v9, rfl, h9⟩
    rw [HSZ.out, strB_strOf H.out.by_] at h9
    have P4 := Aside0.mk h9
    clear h9
    go_wp2_with fail
    go_ret2
    exact ⟨_, rfl, by rw [HN2.out]; exact P4.out.own, P4.out.b⟩
  · have g7 : (n.say == 7) = false := by simp [hs7]
    have HN2 := Aside0.mk (note_else HR.out hs2 hs4 hs7)
    clear hs2 hs4 hs7
    go_wp2_with fail
    go_ret2
    exact ⟨_, rfl, by rw [HN2.out]; exact P3.out.own, P3.out.b⟩
end Go.Proofs.Ytbncmffifbcbjaa.WiQp
