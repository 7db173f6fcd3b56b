/- What wire.Put computes: a note's bytes, or why there are none; condition: the note reads as a note. -/
import Derived.Test.YtbncmffifbcbjaaPw
import Derived.Test.YtbncmffifbcbjaaWiF
import Derived.Test.YtbncmffifbcbjaaLit
import Derived.Deep.DeepCutAuto
namespace Go.Proofs.Ytbncmffifbcbjaa.WiP
open Go Go.RowKit Go.Proofs.YtbncmffifbcbjaaW.PrintWords Go.Proofs.Ytbncmffifbcbjaa.K Go.Proofs.Ytbncmffifbcbjaa.OctS Go.Proofs.Ytbncmffifbcbjaa.OctP Go.Proofs.Ytbncmffifbcbjaa.Oct Go.Proofs.Ytbncmffifbcbjaa.Nm Go.Proofs.Ytbncmffifbcbjaa.Hl Go.Proofs.Ytbncmffifbcbjaa.WiA Go.Proofs.Ytbncmffifbcbjaa.WiB Go.Proofs.Ytbncmffifbcbjaa.WiD Go.Proofs.Ytbncmffifbcbjaa.WiE Go.Proofs.Ytbncmffifbcbjaa.WiF Go.Proofs.Ytbncmffifbcbjaa.WiN Go.Proofs.Ytbncmffifbcbjaa.Ap Go.Proofs.Ytbncmffifbcbjaa.WiT Go.Proofs.Ytbncmffifbcbjaa.Pw
set_option linter.unusedVariables false
set_option linter.unusedSimpArgs false
def textB (s : List Int) : List Int := numB s.length ++ s
def heldB (h : Hl) : List Int := textB (strB h.name) ++ numB h.gen.toNat
def partB (p : Pt) : List Int := p.s ++ numB p.len.toNat
def n0 (n : Nt) : List Int := numB n.say.toNat
def n1 (n : Nt) : List Int := n0 n ++ (if hasF n.say then textB (strB n.name) ++ numB n.gen.toNat else [])
def n2 (n : Nt) : List Int := n1 n ++ (if hasI n.say then numB n.i.toNat else [])
def n3 (n : Nt) : List Int := n2 n ++ (if hasH n.say then numB n.held.length else [])
def n4 (n : Nt) (i : Nat) : List Int := n3 n ++ (n.held.take i).flatMap heldB
def n5 (n : Nt) : List Int := n4 n n.held.length ++ (if hasP n.say then numB n.parts.length else [])
def n6 (n : Nt) (i : Nat) : List Int := n5 n ++ (n.parts.take i).flatMap partB
def noteB (n : Nt) : List Int := n6 n n.parts.length ++ (if hasB n.say then textB n.bytes else [])
def putF (n : Nt) : Int × List Int := if checkF n = 0 then (0, noteB n) else (checkF n, [])
/-- What a right note is. -/
structure Right (n : Nt) : Prop where
  s1 : 1 ≤ n.say
  s2 : n.say ≤ 7
  bare : bareF (hasF n.say) (hasI n.say) (hasH n.say) (hasP n.say) (hasB n.say) n = true
  h : n.held.length ≤ 64
  p : n.parts.length ≤ 256
  b : n.bytes.length ≤ 512
  f : hasF n.say = true → fileOk n.name n.gen
  i0 : 0 ≤ n.i
  i1 : n.i ≤ 255
  b0 : hasB n.say = true → n.bytes ≠ []
  hs : ∀ x ∈ n.held, fileOk x.name x.gen
  ps : ∀ x ∈ n.parts, 1 ≤ x.len ∧ x.len ≤ 512
theorem right_of {n : Nt} (h : checkF n = 0) : Right n := by
  unfold checkF at h
  split at h
  · cases h
  · rename_i h1
    split at h
    · cases h
    · rename_i h2
      split at h
      · cases h
      · rename_i h3
        simp only [not_or, Bool.not_eq_false, not_and, Int.not_lt, Nat.not_lt] at h1 h2 h3
        obtain ⟨a1, a2, a3⟩ := h1
        obtain ⟨b1, b2, b3⟩ := h2
        obtain ⟨c1, c2, c3, c4, c5, c6⟩ := h3
        refine ⟨a1, a2, a3, b1, b2, b3, fun h => Classical.byContradiction (c1 h), c2, c3, c4, fun x hx => ?_, fun x hx => ?_⟩
        · have := (List.any_eq_false.1 (Bool.not_eq_true _ ▸ c5 : n.held.any badH = false)) x hx
          simpa [badH] using this
        · have := (List.any_eq_false.1 (Bool.not_eq_true _ ▸ c6 : n.parts.any badP = false)) x hx
          simpa [badP] using this
theorem text_len (s : List Int) (h : s.length ≤ 32) : (textB s).length ≤ 40 := by
  unfold textB
  rw [List.length_append]
  have := numB_len8 s.length (by omega)
  omega
theorem held_len {x : Hl} (h : fileOk x.name x.gen) : (heldB x).length ≤ 48 := by
  unfold heldB
  rw [List.length_append]
  have h1 := text_len (strB x.name) (by rw [strB_len]; exact h.1.2.1)
  have h2 := numB_len8 x.gen.toNat (by have := h.2; omega)
  omega
theorem part_blen {x : Pt} (h : x.s.length = 32) (h2 : 1 ≤ x.len ∧ x.len ≤ 512) : (partB x).length ≤ 40 := by
  unfold partB
  rw [List.length_append]
  have := numB_len8 x.len.toNat (by omega)
  omega
theorem flat_len {α : Type} (f : α → List Int) (k : Nat) : ∀ l : List α, (∀ x ∈ l, (f x).length ≤ k) → (l.flatMap f).length ≤ k * l.length
  | [], _ => by simp
  | x :: l, h => by
    rw [List.flatMap_cons, List.length_append, List.length_cons, Nat.mul_succ]
    have := h x List.mem_cons_self
    have := flat_len f k l (fun y hy => h y (List.mem_cons_of_mem _ hy))
    omega
theorem n0_len {n : Nt} (h : Right n) : (n0 n).length ≤ 8 := numB_len8 _ (by have := h.s2; omega)
theorem n1_len {n : Nt} (h : Right n) : (n1 n).length ≤ 56 := by
  unfold n1
  rw [List.length_append]
  have := n0_len h
  split
  · rename_i hf
    have := held_len (x := ⟨n.name, n.gen⟩) (h.f hf)
    unfold heldB at this
    simp only at this
    omega
  · simp; omega
theorem n2_len {n : Nt} (h : Right n) : (n2 n).length ≤ 64 := by
  unfold n2
  rw [List.length_append]
  have := n1_len h
  split
  · have := numB_len8 n.i.toNat (by have := h.i1; omega)
    omega
  · simp; omega
theorem n3_len {n : Nt} (h : Right n) : (n3 n).length ≤ 72 := by
  unfold n3
  rw [List.length_append]
  have := n2_len h
  split
  · have := numB_len8 n.held.length (by have := h.h; omega)
    omega
  · simp; omega
theorem n4_len {n : Nt} (h : Right n) (i : Nat) : (n4 n i).length ≤ 72 + 48 * 64 := by
  unfold n4
  rw [List.length_append]
  have := n3_len h
  have h1 := flat_len heldB 48 (n.held.take i) (fun x hx => held_len (h.hs x (List.mem_of_mem_take hx)))
  rw [List.length_take] at h1
  have := h.h
  have : 48 * min i n.held.length ≤ 48 * 64 := Nat.mul_le_mul_left _ (by omega)
  omega
theorem n5_len {n : Nt} (h : Right n) : (n5 n).length ≤ 80 + 48 * 64 := by
  unfold n5
  rw [List.length_append]
  have := n4_len h n.held.length
  split
  · have := numB_len8 n.parts.length (by have := h.p; omega)
    omega
  · simp; omega
theorem n6_len {n : Nt} (h : Right n) (hp : ∀ x ∈ n.parts, x.s.length = 32) (i : Nat) : (n6 n i).length ≤ 80 + 48 * 64 + 40 * 256 := by
  unfold n6
  rw [List.length_append]
  have := n5_len h
  have h1 := flat_len partB 40 (n.parts.take i) (fun x hx => part_blen (hp x (List.mem_of_mem_take hx)) (h.ps x (List.mem_of_mem_take hx)))
  rw [List.length_take] at h1
  have := h.p
  have : 40 * min i n.parts.length ≤ 40 * 256 := Nat.mul_le_mul_left _ (by omega)
  omega
/-- What lies by. -/
def Ls (g gx : Nat) (n : Nt) (a : Ads) : List (Nat × Array Value × TypeId) := [(g, noteV n a, 27), (gx, #[.bool (hasF n.say), .bool (hasI n.say), .bool (hasH n.say), .bool (hasP n.say), .bool (hasB n.say)], 40)]
theorem Pw.note {w W : World} {g gx : Nat} {n : Nt} {a : Ads} {v : Value} {xs : List Int} {L : List (Nat × Array Value × TypeId)} (h : Pw w W L v xs) (hl : ∀ x ∈ Ls g gx n a, x ∈ L) :
    W.heap[g]? = some (.cells (noteV n a) 27 (0, 0)) ∧ W.cell? ⟨gx, 0, none⟩ = some (.bool (hasF n.say)) ∧ W.cell? ⟨gx, 1, none⟩ = some (.bool (hasI n.say)) ∧ W.cell? ⟨gx, 2, none⟩ = some (.bool (hasH n.say)) ∧ W.cell? ⟨gx, 3, none⟩ = some (.bool (hasP n.say)) ∧ W.cell? ⟨gx, 4, none⟩ = some (.bool (hasB n.say)) := by
  have h1 := h.get _ (hl (g, noteV n a, 27) (by simp [Ls]))
  have h2 := h.get _ (hl (gx, #[.bool (hasF n.say), .bool (hasI n.say), .bool (hasH n.say), .bool (hasP n.say), .bool (hasB n.say)], 40) (by simp [Ls]))
  exact ⟨h1, obj_cell h2 0 rfl, obj_cell h2 1 rfl, obj_cell h2 2 rfl, obj_cell h2 3 rfl, obj_cell h2 4 rfl⟩
theorem sNG {w W : World} {g gx : Nat} {n : Nt} {a : Ads} {v : Value} {xs : List Int} {L : List (Nat × Array Value × TypeId)} (h : Pw w W L v xs) (hl : ∀ x ∈ Ls g gx n a, x ∈ L) :
    W.cell? ⟨g, 1, none⟩ = some (.string n.name) ∧ W.cell? ⟨g, 2, none⟩ = some (.int .i64 n.gen) := ⟨(note_cells (Pw.note h hl).1).2.1, (note_cells (Pw.note h hl).1).2.2.1⟩
theorem zeroPt : ∃ Z : Array Value, Z.size = 33 ∧ ∀ W, (zeroValue 51).run Try.prog W = .ok (.agg Z) W := by
  refine ⟨(List.replicate 32 (Value.int .u8 0) ++ [Value.int .i64 0]).toArray, rfl, fun W => ?_⟩
  obtain ⟨i, h1, h2⟩ := Option.map_eq_some_iff.1 infoPt
  simp only [Prod.mk.injEq] at h2
  obtain ⟨h2, _, _⟩ := h2
  simp [zeroValue, typeInfo, Sem.run_bind, h1, h2]
theorem sum_of_part {w : World} {g : Nat} {r : Pt} (h : w.heap[g]? = some (.cells r.cells.toArray 51 (0, 0))) (ho : r.Ok) : (Kd.int .u8).C w (some ⟨g, 0, none⟩) 32 r.s := by
  have hl := ho.n
  rw [← hl]
  refine Kd.C_of_reads (d := 0) ⟨rfl, by omega, fun _ => ⟨⟨g, 0, none⟩, rfl, fun j hj => ?_⟩⟩
  have : w.cell? ⟨g, 0 + j, none⟩ = some (.int .u8 (r.s.getD j 0)) := obj_cell h (0 + j) (by
    rw [List.getElem?_toArray, Nat.zero_add]
    show (nums .u8 r.s ++ _)[j]? = _
    rw [List.getElem?_append_left (by simp [nums]; exact hj)]
    simp [nums, hj])
  rw [Nat.zero_add] at this
  by_cases hj0 : j = 0
  · subst hj0; simpa [Addr.add] using this
  · simpa [Addr.add, hj0] using this
theorem sHD {w W : World} {g : Nat} {nm : ByteArray} {z : Int} {v : Value} {xs : List Int} {L : List (Nat × Array Value × TypeId)} (h : Pw w W L v xs) (hl : (g, #[.string nm, .int .i64 z], 46) ∈ L) :
    W.cell? ⟨g, 0, none⟩ = some (.string nm) ∧ W.cell? ⟨g, 1, none⟩ = some (.int .i64 z) :=
  ⟨obj_cell (h.get _ hl) 0 rfl, obj_cell (h.get _ hl) 1 rfl⟩
set_option maxHeartbeats 8000000 in
set_option maxRecDepth 100000 in
theorem put_calls (n : Nt) (a : Ads) (w : World) (h : NtC w n a) : Calls Try.prog 10 #[.agg (noteV n a)] w fun e w' => ∃ v, e = .returned (.tuple #[v, .int .i64 (putF n).1]) ∧ Kd.R (Kd.int .u8) 5 w' w.heap.size (fun _ => True) (v) ((putF n).2) ∧ Below w.heap.size w w' := by
  have hblk := heap_alloc_new w (.cells (noteV n a) 27)
  have HG := Aside0.mk hblk
  have HB := Aside0.mk (below_alloc (Below.refl w.heap.size w) (.cells (noteV n a) 27))
  have H := Aside0.mk h
  have HN := Aside0.mk (named_calls n.say)
  obtain ⟨c0, c1, c2, c3, c4, c5, c6⟩ := note_cells hblk
  generalize hw1 : w.alloc (.cells (noteV n a) 27) = w1 at *
  have HCK := Aside0.mk (check_calls n a w1 (h.below (by rw [← hw1]; exact below_alloc (Below.refl _ _) _)))
  have hw1' : w.alloc (.cells #[.int .i64 n.say, .string n.name, .int .i64 n.gen, .int .i64 n.i, .slice a.ah n.held.length a.ch, .slice a.ap n.parts.length a.cp, .slice a.ab n.bytes.length a.cb] 27) = w1 := hw1
  simp only [noteV] at HCK
  clear h hblk hw1
  rw [show noteV n a = #[.int .i64 n.say, .string n.name, .int .i64 n.gen, .int .i64 n.i, .slice a.ah n.held.length a.ch, .slice a.ap n.parts.length a.cp, .slice a.ab n.bytes.length a.cb] from rfl]
  by_cases hz : checkF n = 0
  case neg =>
    have hp : putF n = (checkF n, []) := by unfold putF; rw [if_neg hz]
    have e1 : (checkF n != 0) = true := by simpa using hz
    rw [hp]
    clear hz hp
    go_enter Try.func10, Try.ntmps10
    go_wp2_with (go_at_call 8; (with_reducible refine (HCK.out).mono ?_); rintro e w' ⟨rfl, hb2⟩; have HB2 := Aside0.mk (below_then HB.out HB.out.size hb2); clear hb2)
    go_ret2
    exact ⟨_, rfl, Kd.R_nil _ _ _ _ _, HB2.out⟩
  have hp : putF n = (0, noteB n) := by unfold putF; rw [if_pos hz]
  have HR := Aside0.mk (right_of hz)
  rw [hz] at HCK
  rw [hp]
  have HPS : Aside0 (∀ x ∈ n.parts, x.s.length = 32) := ⟨fun x hx => by
    obtain ⟨j, hj, rfl⟩ := List.getElem_of_mem hx
    obtain ⟨_, _, ho, _⟩ := pt_at H.out.p j hj
    have := ho.n
    simpa [hj] using this⟩
  clear hz hp
  go_enter Try.func10, Try.ntmps10
  go_wp2_with fail
  refine HCK.out.mono ?_
  rintro e w2 ⟨rfl, hb2⟩
  have HG2 := Aside0.mk ((hb2.block _ (Array.getElem?_eq_some_iff.1 HG.out).1).trans HG.out)
  have HB2 := Aside0.mk (below_then HB.out HB.out.size hb2)
  clear hb2 c0 c1 c2 c3 c4 c5 c6
  obtain ⟨c0, c1, c2, c3, c4, c5, c6⟩ := note_cells HG2.out
  go_wp2_with fail
  refine (HN.out w2).mono ?_
  unfold namesV
  rintro e w3 ⟨rfl, hb3⟩
  obtain ⟨W, hW⟩ : ∃ W, W = w3.alloc (.cells #[.bool (hasF n.say), .bool (hasI n.say), .bool (hasH n.say), .bool (hasP n.say), .bool (hasB n.say)] 40) := ⟨_, rfl⟩
  have HG3 := (hb3.block _ (Array.getElem?_eq_some_iff.1 HG2.out).1).trans HG2.out
  have P0 : Aside0 (Pw w W (Ls w.heap.size w3.heap.size n a) (.slice none 0 0) []) := ⟨by
    rw [hW]
    refine ⟨Kd.R_nil _ _ _ _ _, below_alloc (below_then HB2.out HB2.out.size hb3) _, fun x hx => ?_⟩
    simp only [Ls, List.mem_cons, List.not_mem_nil, or_false] at hx
    rcases hx with rfl | rfl
    · exact ⟨by simp, (Below.heap_alloc _ _ _ (Array.getElem?_eq_some_iff.1 HG3).1).trans HG3⟩
    · exact ⟨by simp, heap_alloc_new w3 _⟩⟩
  have hWs := hW.symm
  have HWS := Aside0.mk hW
  clear c0 c1 c2 c3 c4 c5 c6 hb3 HG3 hW HG HG2 HB HB2 HCK HN hw1'
  obtain ⟨hnote, x0, x1, x2, x3, x4⟩ := Pw.note P0.out (fun x hx => hx)
  obtain ⟨c0, c1, c2, c3, c4, c5, c6⟩ := note_cells hnote
  clear hnote
  go_wp2_with fail
  clear c0 c1 c2 c3 c4 c5 c6 x0 x1 x2 x3 x4
  refine (P0.out.num1 n.say (by have := HR.out.s1; omega) (by have := HR.out.s2; omega) (by simp)).mono ?_
  rintro e W1 ⟨v1, rfl, hp1⟩
  have P1 : Aside0 (Pw w W1 (Ls w.heap.size w3.heap.size n a) v1 (n0 n)) := ⟨by simpa [n0] using hp1⟩
  clear hp1
  obtain ⟨hnote, x0, x1, x2, x3, x4⟩ := Pw.note P1.out (fun x hx => hx)
  obtain ⟨c0, c1, c2, c3, c4, c5, c6⟩ := note_cells hnote
  clear hnote
  go_upto_if 24 with fail
  go_cut [6] (fun s6 wx => Aside0 (Pw w wx (Ls w.heap.size w3.heap.size n a) s6 (n1 n)))
  case first =>
    by_cases hf : hasF n.say = true
    · have HE : Aside0 (n1 n = n0 n ++ (numB n.name.size ++ strB n.name) ++ numB n.gen.toNat) := ⟨by unfold n1; rw [if_pos hf]; unfold textB; rw [strB_len]; simp only [List.append_assoc]⟩
      have hfo : NameOk n.name ∧ 1 ≤ n.gen ∧ n.gen ≤ 9007199254740991 := HR.out.f hf
      have HFO : Aside0 (n.name.size ≤ 32 ∧ 1 ≤ n.gen ∧ n.gen ≤ 9007199254740991) := ⟨⟨hfo.1.2.1, hfo.2⟩⟩
      clear hfo
      rw [hf]
      go_wp2_with fail
      obtain ⟨wd, hwd⟩ : ∃ wd, wd = W1.drew := ⟨_, rfl⟩
      have PD : Aside0 (Pw w wd (Ls w.heap.size w3.heap.size n a) v1 (n0 n)) := ⟨by rw [hwd]; exact P1.out.drew⟩
      (refine Hd.startE (S := (fun X => X.cell? ⟨w.heap.size, 1, none⟩ = some (.string n.name) ∧ X.cell? ⟨w.heap.size, 2, none⟩ = some (.int .i64 n.gen))) 1000 (by kernel_rfl) ((by rw [← hwd]; exact sNG PD.out (fun x hx => hx))) (fun hHeld => ?_))
      rw [← hwd]
      rw [← hwd] at hHeld
      clear hwd
      (refine Hd.takeE (i := 0) (v := ?_) rfl rfl (by kernel_rfl) (by kernel_rfl) (by kernel_rfl) (by kernel_rfl) (by first | exact fun _ _ _ h => h | exact fun _ _ _ h => HQP.out (by decide) h) (Or.inl ⟨by rfl, ?_⟩) (by assumption) ?_; rotate_left; (focus (intro wS hS; (try go_split_ands); go_simp; all_goals (with_reducible rfl))); simp only [List.set_cons_zero, List.set_cons_succ, List.setIfInBounds_toArray]); (refine Hd.takeE (i := 1) (v := ?_) rfl rfl (by kernel_rfl) (by kernel_rfl) (by kernel_rfl) (by kernel_rfl) (by first | exact fun _ _ _ h => h | exact fun _ _ _ h => HQP.out (by decide) h) (Or.inl ⟨by rfl, ?_⟩) (by assumption) ?_; rotate_left; (focus (intro wS hS; (try go_split_ands); go_simp; all_goals (with_reducible rfl))); simp only [List.set_cons_zero, List.set_cons_succ, List.setIfInBounds_toArray]); (refine Hd.takeE (i := 2) (v := ?_) rfl rfl (by kernel_rfl) (by kernel_rfl) (by kernel_rfl) (by kernel_rfl) (by first | exact fun _ _ _ h => h | exact fun _ _ _ h => HQP.out (by decide) h) (Or.inl ⟨by rfl, ?_⟩) (by assumption) ?_; rotate_left; (focus (intro wS hS; (try go_split_ands); go_simp; all_goals (with_reducible rfl))); simp only [List.set_cons_zero, List.set_cons_succ, List.setIfInBounds_toArray]); (refine Hd.takeE (i := 5) (v := ?_) rfl rfl (by kernel_rfl) (by kernel_rfl) (by kernel_rfl) (by kernel_rfl) (by first | exact fun _ _ _ h => h | exact fun _ _ _ h => HQP.out (by decide) h) (Or.inl ⟨by rfl, ?_⟩) (by assumption) ?_; rotate_left; (focus (intro wS hS; (try go_split_ands); go_simp; all_goals (with_reducible rfl))); simp only [List.set_cons_zero, List.set_cons_succ, List.setIfInBounds_toArray]); (refine Hd.takeE (i := 6) (v := ?_) rfl rfl (by kernel_rfl) (by kernel_rfl) (by kernel_rfl) (by kernel_rfl) (by first | exact fun _ _ _ h => h | exact fun _ _ _ h => HQP.out (by decide) h) (Or.inl ⟨by rfl, ?_⟩) (by assumption) ?_; rotate_left; (focus (intro wS hS; (try go_split_ands); go_simp; all_goals (with_reducible rfl))); simp only [List.set_cons_zero, List.set_cons_succ, List.setIfInBounds_toArray])
      ((refine Hd.readyE (rs := [3, 7]) (by kernel_rfl) (by simp) ?_; refine Hd.AllE.cons (i := 3) rfl (fun K hK => ?_) (Hd.AllE.cons (i := 7) rfl (fun K hK => ?_) (Hd.AllE.nil))); (focus (((refine Hd.step_of_list rfl ?_; refine Hd.step_run rfl (exec_conv rfl (by first | rfl | simp [Act.eval])) ?_; refine wpList_nil ?_); refine hK.out _ _ ((sNG (PD.out.conv _) (by intro x hx; first | exact hx | exact List.mem_cons_of_mem _ hx))) (fun hHeld => ?_); clear hK K; (try simp only [Act.put, List.setIfInBounds_toArray, List.set_cons_zero, List.set_cons_succ])); obtain ⟨wc1, hwc1⟩ : ∃ X, X = Lib.bytesWorld wd 5 (n.name) := ⟨_, rfl⟩; rw [← hwc1]; have PC1 := Aside0.mk (show Pw _ wc1 _ _ _ from by rw [hwc1]; exact PD.out.conv _); have SC1 := Aside0.mk (show Src wc1 _ _ _ _ from by rw [hwc1]; exact Src.conv PD.out (n.name) (by have := HFO.out.1; simp only [maxLen]; omega)); clear hwc1; (refine Hd.readyE (rs := [4, 7]) (by kernel_rfl) (by simp) ?_; refine Hd.AllE.cons (i := 4) rfl (fun K hK => ?_) (Hd.AllE.cons (i := 7) rfl (fun K hK => ?_) (Hd.AllE.nil))); (focus (((go_simp; (go_at_call 26; (with_reducible refine (PC1.out.text SC1.out (by have := n0_len HR.out; have := HFO.out.1; omega)).mono ?_); rintro e wt1 ⟨vwt1, rfl, hwt1⟩)); refine hK.out _ _ ((sNG (hwt1) (by intro x hx; first | exact hx | exact List.mem_cons_of_mem _ hx))) (fun hHeld => ?_); clear hK K; (try simp only [Act.put, List.setIfInBounds_toArray, List.set_cons_zero, List.set_cons_succ])); have PT1 := Aside0.mk hwt1; clear hwt1; (refine Hd.readyE (rs := [7]) (by kernel_rfl) (by simp) ?_; refine Hd.AllE.cons (i := 7) rfl (fun K hK => ?_) Hd.AllE.nil; go_simp; refine hK.out _ _ ((sNG (PT1.out.alloc _) (by intro x hx; first | exact hx | exact List.mem_cons_of_mem _ hx))) (fun hHeld => ?_); clear hK K; (try simp only [Act.put, List.setIfInBounds_toArray, List.set_cons_zero, List.set_cons_succ])); obtain ⟨wl1, hwl1⟩ : ∃ X, X = wt1.alloc (.cells #[.int .i64 (n.gen)] 3) := ⟨_, rfl⟩; rw [← hwl1]; have PL1 := Aside0.mk (show Pw _ wl1 _ _ _ from by rw [hwl1]; exact PT1.out.lit #[.int .i64 (n.gen)] (t := 3) (by decide)); clear hwl1; (refine Hd.readyE (rs := [8]) (by kernel_rfl) (by simp) ?_; refine Hd.AllE.cons (i := 8) rfl (fun K hK => ?_) Hd.AllE.nil; (go_simp; (go_at_call 25; (with_reducible refine (PL1.out.numt (strB_len _) (z := n.gen) List.mem_cons_self (by have := HFO.out.2; omega) (by have := HFO.out.2; omega) (by have := n0_len HR.out; have := HFO.out.1; omega)).mono ?_); rintro e wn1 ⟨vwn1, rfl, hwn1⟩)); refine hK.out _ _ ((sNG (hwn1) (by intro x hx; first | exact hx | exact List.mem_cons_of_mem _ hx))) (fun hHeld => ?_); clear hK K; (try simp only [Act.put, List.setIfInBounds_toArray, List.set_cons_zero, List.set_cons_succ])); have PE := Aside0.mk (hwn1.less (fun x hx => List.mem_cons_of_mem _ hx)); clear hwn1; (refine Hd.takeE (i := 9) (v := ?_) rfl rfl (by kernel_rfl) (by kernel_rfl) (by kernel_rfl) (by kernel_rfl) (by first | exact fun _ _ _ h => h | exact fun _ _ _ h => HQP.out (by decide) h) (Or.inl ⟨by rfl, ?_⟩) (by assumption) ?_; rotate_left; (focus (intro wS hS; (try go_split_ands); go_simp; all_goals (with_reducible rfl))); simp only [List.set_cons_zero, List.set_cons_succ, List.setIfInBounds_toArray]); (refine Hd.endE (by kernel_rfl) ?_ _); (go_wp2_with fail; go_meet; exact ⟨Eq.mpr (congrArg (Pw _ _ _ _) HE.out) PE.out⟩))); (go_simp; refine hK.out _ _ ((sNG (PC1.out.alloc _) (by intro x hx; first | exact hx | exact List.mem_cons_of_mem _ hx))) (fun hHeld => ?_); clear hK K; (try simp only [Act.put, List.setIfInBounds_toArray, List.set_cons_zero, List.set_cons_succ])); obtain ⟨wl2, hwl2⟩ : ∃ X, X = wc1.alloc (.cells #[.int .i64 (n.gen)] 3) := ⟨_, rfl⟩; rw [← hwl2]; have PL2 := Aside0.mk (show Pw _ wl2 _ _ _ from by rw [hwl2]; exact PC1.out.lit #[.int .i64 (n.gen)] (t := 3) (by decide)); have SL2 := Aside0.mk (show Src wl2 _ _ _ _ from by rw [hwl2]; exact SC1.out.below (below_alloc (Below.refl _ _) _)); clear hwl2; (refine Hd.readyE (rs := [4]) (by kernel_rfl) (by simp) ?_; refine Hd.AllE.cons (i := 4) rfl (fun K hK => ?_) Hd.AllE.nil; (go_simp; (go_at_call 26; (with_reducible refine (PL2.out.text SL2.out (by have := n0_len HR.out; have := HFO.out.1; omega)).mono ?_); rintro e wt2 ⟨vwt2, rfl, hwt2⟩)); refine hK.out _ _ ((sNG (hwt2) (by intro x hx; first | exact hx | exact List.mem_cons_of_mem _ hx))) (fun hHeld => ?_); clear hK K; (try simp only [Act.put, List.setIfInBounds_toArray, List.set_cons_zero, List.set_cons_succ])); have PT2 := Aside0.mk hwt2; clear hwt2; (refine Hd.readyE (rs := [8]) (by kernel_rfl) (by simp) ?_; refine Hd.AllE.cons (i := 8) rfl (fun K hK => ?_) Hd.AllE.nil; (go_simp; (go_at_call 25; (with_reducible refine (PT2.out.numt (strB_len _) (z := n.gen) List.mem_cons_self (by have := HFO.out.2; omega) (by have := HFO.out.2; omega) (by have := n0_len HR.out; have := HFO.out.1; omega)).mono ?_); rintro e wn2 ⟨vwn2, rfl, hwn2⟩)); refine hK.out _ _ ((sNG (hwn2) (by intro x hx; first | exact hx | exact List.mem_cons_of_mem _ hx))) (fun hHeld => ?_); clear hK K; (try simp only [Act.put, List.setIfInBounds_toArray, List.set_cons_zero, List.set_cons_succ])); have PE := Aside0.mk (hwn2.less (fun x hx => List.mem_cons_of_mem _ hx)); clear hwn2; (refine Hd.takeE (i := 9) (v := ?_) rfl rfl (by kernel_rfl) (by kernel_rfl) (by kernel_rfl) (by kernel_rfl) (by first | exact fun _ _ _ h => h | exact fun _ _ _ h => HQP.out (by decide) h) (Or.inl ⟨by rfl, ?_⟩) (by assumption) ?_; rotate_left; (focus (intro wS hS; (try go_split_ands); go_simp; all_goals (with_reducible rfl))); simp only [List.set_cons_zero, List.set_cons_succ, List.setIfInBounds_toArray]); (refine Hd.endE (by kernel_rfl) ?_ _); (go_wp2_with fail; go_meet; exact ⟨Eq.mpr (congrArg (Pw _ _ _ _) HE.out) PE.out⟩))); (go_simp; refine hK.out _ _ ((sNG (PD.out.alloc _) (by intro x hx; first | exact hx | exact List.mem_cons_of_mem _ hx))) (fun hHeld => ?_); clear hK K; (try simp only [Act.put, List.setIfInBounds_toArray, List.set_cons_zero, List.set_cons_succ])); obtain ⟨wl3, hwl3⟩ : ∃ X, X = wd.alloc (.cells #[.int .i64 (n.gen)] 3) := ⟨_, rfl⟩; rw [← hwl3]; have PL3 := Aside0.mk (show Pw _ wl3 _ _ _ from by rw [hwl3]; exact PD.out.lit #[.int .i64 (n.gen)] (t := 3) (by decide)); clear hwl3; (refine Hd.readyE (rs := [3]) (by kernel_rfl) (by simp) ?_; refine Hd.AllE.cons (i := 3) rfl (fun K hK => ?_) Hd.AllE.nil; (refine Hd.step_of_list rfl ?_; refine Hd.step_run rfl (exec_conv rfl (by first | rfl | simp [Act.eval])) ?_; refine wpList_nil ?_); refine hK.out _ _ ((sNG (PL3.out.conv _) (by intro x hx; first | exact hx | exact List.mem_cons_of_mem _ hx))) (fun hHeld => ?_); clear hK K; (try simp only [Act.put, List.setIfInBounds_toArray, List.set_cons_zero, List.set_cons_succ])); obtain ⟨wc3, hwc3⟩ : ∃ X, X = Lib.bytesWorld wl3 5 (n.name) := ⟨_, rfl⟩; rw [← hwc3]; have PC3 := Aside0.mk (show Pw _ wc3 _ _ _ from by rw [hwc3]; exact PL3.out.conv _); have SC3 := Aside0.mk (show Src wc3 _ _ _ _ from by rw [hwc3]; exact Src.conv PL3.out (n.name) (by have := HFO.out.1; simp only [maxLen]; omega)); clear hwc3; (refine Hd.readyE (rs := [4]) (by kernel_rfl) (by simp) ?_; refine Hd.AllE.cons (i := 4) rfl (fun K hK => ?_) Hd.AllE.nil; (go_simp; (go_at_call 26; (with_reducible refine (PC3.out.text SC3.out (by have := n0_len HR.out; have := HFO.out.1; omega)).mono ?_); rintro e wt3 ⟨vwt3, rfl, hwt3⟩)); refine hK.out _ _ ((sNG (hwt3) (by intro x hx; first | exact hx | exact List.mem_cons_of_mem _ hx))) (fun hHeld => ?_); clear hK K; (try simp only [Act.put, List.setIfInBounds_toArray, List.set_cons_zero, List.set_cons_succ])); have PT3 := Aside0.mk hwt3; clear hwt3; (refine Hd.readyE (rs := [8]) (by kernel_rfl) (by simp) ?_; refine Hd.AllE.cons (i := 8) rfl (fun K hK => ?_) Hd.AllE.nil; (go_simp; (go_at_call 25; (with_reducible refine (PT3.out.numt (strB_len _) (z := n.gen) List.mem_cons_self (by have := HFO.out.2; omega) (by have := HFO.out.2; omega) (by have := n0_len HR.out; have := HFO.out.1; omega)).mono ?_); rintro e wn3 ⟨vwn3, rfl, hwn3⟩)); refine hK.out _ _ ((sNG (hwn3) (by intro x hx; first | exact hx | exact List.mem_cons_of_mem _ hx))) (fun hHeld => ?_); clear hK K; (try simp only [Act.put, List.setIfInBounds_toArray, List.set_cons_zero, List.set_cons_succ])); have PE := Aside0.mk (hwn3.less (fun x hx => List.mem_cons_of_mem _ hx)); clear hwn3; (refine Hd.takeE (i := 9) (v := ?_) rfl rfl (by kernel_rfl) (by kernel_rfl) (by kernel_rfl) (by kernel_rfl) (by first | exact fun _ _ _ h => h | exact fun _ _ _ h => HQP.out (by decide) h) (Or.inl ⟨by rfl, ?_⟩) (by assumption) ?_; rotate_left; (focus (intro wS hS; (try go_split_ands); go_simp; all_goals (with_reducible rfl))); simp only [List.set_cons_zero, List.set_cons_succ, List.setIfInBounds_toArray]); (refine Hd.endE (by kernel_rfl) ?_ _); (go_wp2_with fail; go_meet; exact ⟨Eq.mpr (congrArg (Pw _ _ _ _) HE.out) PE.out⟩))
    · have HE : Aside0 (n1 n = n0 n) := ⟨by unfold n1; rw [if_neg hf, List.append_nil]⟩
      go_wp2_with fail
      go_meet
      exact ⟨by rw [HE.out]; exact P1.out⟩
  case rest =>
  have P2 := hcut
  clear hcut
  clear c0 c1 c2 c3 c4 c5 c6 x0 x1 x2 x3 x4
  obtain ⟨hnote, x0, x1, x2, x3, x4⟩ := Pw.note P2.out (fun x hx => hx)
  obtain ⟨c0, c1, c2, c3, c4, c5, c6⟩ := note_cells hnote
  clear hnote
  go_upto_if 35 with fail
  go_cut [6] (fun s6 wx => Aside0 (Pw w wx (Ls w.heap.size w3.heap.size n a) s6 (n2 n)))
  case first =>
    by_cases hf : hasI n.say = true
    · have HE : Aside0 (n2 n = n1 n ++ numB (n.i).toNat) := ⟨by unfold n2; rw [if_pos hf]; try rfl⟩
      rw [hf]
      go_wp2_with fail
      refine (P2.out.num1 (n.i) (HR.out.i0) (by have := HR.out.i1; omega) (by have := n1_len HR.out; omega)).mono ?_
      rintro e w9 ⟨v9, rfl, h9⟩
      go_wp2_with fail
      go_meet
      exact ⟨Eq.mpr (congrArg (Pw _ _ _ _) HE.out) h9⟩
    · have HE : Aside0 (n2 n = n1 n) := ⟨by unfold n2; rw [if_neg hf, List.append_nil]⟩
      rw [show hasI n.say = false by simpa using hf]
      go_wp2_with fail
      go_meet
      exact ⟨by rw [HE.out]; exact P2.out⟩
  case rest =>
  have P3 := hcut
  clear hcut
  clear c0 c1 c2 c3 c4 c5 c6 x0 x1 x2 x3 x4
  obtain ⟨hnote, x0, x1, x2, x3, x4⟩ := Pw.note P3.out (fun x hx => hx)
  obtain ⟨c0, c1, c2, c3, c4, c5, c6⟩ := note_cells hnote
  clear hnote
  go_upto_if 42 with fail
  go_cut [6] (fun s6 wx => Aside0 (Pw w wx (Ls w.heap.size w3.heap.size n a) s6 (n3 n)))
  case first =>
    by_cases hf : hasH n.say = true
    · have HE : Aside0 (n3 n = n2 n ++ numB ((n.held.length : Int)).toNat) := ⟨by unfold n3; rw [if_pos hf]; try rfl⟩
      rw [hf]
      go_wp2_with fail
      refine (P3.out.num1 ((n.held.length : Int)) (by omega) (by have := HR.out.h; omega) (by have := n2_len HR.out; omega)).mono ?_
      rintro e w9 ⟨v9, rfl, h9⟩
      go_wp2_with fail
      go_meet
      exact ⟨Eq.mpr (congrArg (Pw _ _ _ _) HE.out) h9⟩
    · have HE : Aside0 (n3 n = n2 n) := ⟨by unfold n3; rw [if_neg hf, List.append_nil]⟩
      rw [show hasH n.say = false by simpa using hf]
      go_wp2_with fail
      go_meet
      exact ⟨by rw [HE.out]; exact P3.out⟩
  case rest =>
  have P4 := hcut
  clear hcut
  clear c0 c1 c2 c3 c4 c5 c6 x0 x1 x2 x3 x4
  obtain ⟨hnote, x0, x1, x2, x3, x4⟩ := Pw.note P4.out (fun x hx => hx)
  obtain ⟨c0, c1, c2, c3, c4, c5, c6⟩ := note_cells hnote
  clear hnote
  go_wp2_with fail
  have hh64 := HR.out.h
  go_loopg [6, 52] (n.held.length + 1) (fun gk v6 v52 wr => ∃ i : Nat, v52 = .int .i64 i ∧ i ≤ n.held.length ∧ Aside0 (gk = n.held.length - i + 1) ∧ Aside0 (Pw w wr (Ls w.heap.size w3.heap.size n a) v6 (n4 n i)))
  case atStart => exact ⟨0, rfl, Nat.zero_le _, ⟨rfl⟩, ⟨by simpa [n4] using P4.out⟩⟩
  case round =>
    clear c0 c1 c2 c3 c4 c5 c6 x0 x1 x2 x3 x4
    obtain ⟨i, rfl, hi, HG, P5⟩ := hrel
    by_cases hlt : i < n.held.length
    · have h1 : decide ((i : Int) < (n.held.length : Int)) = true := by simp; omega
      have hp1 : (0 : Int) ≤ (i : Int) := by omega
      have hp2 : (i : Int) < (n.held.length : Int) := by omega
      obtain ⟨ad, had, hok, b0, b1⟩ := hl_at (Kd.C_below H.out.h P5.out.b) i hlt
      have hmem : n.held.getD i default ∈ n.held := by
        rw [show n.held.getD i default = n.held[i] from by simp [hlt]]
        exact List.getElem_mem _
      have HFO : Aside0 ((n.held.getD i default).name.size ≤ 32 ∧ 1 ≤ (n.held.getD i default).gen ∧ (n.held.getD i default).gen ≤ 9007199254740991) := ⟨by
        have hf : NameOk (n.held.getD i default).name ∧ 1 ≤ (n.held.getD i default).gen ∧ (n.held.getD i default).gen ≤ 9007199254740991 := HR.out.hs _ hmem
        exact ⟨hf.1.2.1, hf.2⟩⟩
      have HE : Aside0 (n4 n (i + 1) = n4 n i ++ (numB (n.held.getD i default).name.size ++ strB (n.held.getD i default).name) ++ numB (n.held.getD i default).gen.toNat) := ⟨by
        unfold n4
        rw [List.take_add_one, List.getElem?_eq_getElem hlt, List.flatMap_append, show n.held.getD i default = n.held[i] from by simp [hlt]]
        simp [heldB, textB, strB_len]⟩
      generalize n.held.getD i default = k at *
      have HAD := Aside0.mk had
      clear hok hmem had
      obtain ⟨knm, kgen⟩ := k
      simp only at *
      rw [HAD.out]
      go_wp2_with fail
      obtain ⟨wa, hwa⟩ : ∃ wa, wa = wr.alloc (.cells #[.string knm, .int .i64 kgen] 46) := ⟨_, rfl⟩
      have PD : Aside0 (Pw w wa.drew ((wr.heap.size, #[.string knm, .int .i64 kgen], 46) :: Ls w.heap.size w3.heap.size n a) u6 (n4 n i)) := ⟨by rw [hwa]; exact (P5.out.lit #[.string knm, .int .i64 kgen] (t := 46) (by decide)).drew⟩
      obtain ⟨wd, hwd⟩ : ∃ wd, wd = wa.drew := ⟨_, rfl⟩
      rw [← hwd] at PD
      rw [← hwa]
      clear hwa
      (refine Hd.startE (S := (fun X => X.cell? ⟨wr.heap.size, 0, none⟩ = some (.string knm) ∧ X.cell? ⟨wr.heap.size, 1, none⟩ = some (.int .i64 kgen))) 1000 (by kernel_rfl) ((by rw [← hwd]; exact sHD PD.out List.mem_cons_self)) (fun hHeld => ?_))
      rw [← hwd]
      rw [← hwd] at hHeld
      clear hwd
      (refine Hd.takeE (i := 0) (v := ?_) rfl rfl (by kernel_rfl) (by kernel_rfl) (by kernel_rfl) (by kernel_rfl) (by first | exact fun _ _ _ h => h | exact fun _ _ _ h => HQP.out (by decide) h) (Or.inl ⟨by rfl, ?_⟩) (by assumption) ?_; rotate_left; (focus (intro wS hS; (try go_split_ands); go_simp; all_goals (with_reducible rfl))); simp only [List.set_cons_zero, List.set_cons_succ, List.setIfInBounds_toArray]); (refine Hd.takeE (i := 1) (v := ?_) rfl rfl (by kernel_rfl) (by kernel_rfl) (by kernel_rfl) (by kernel_rfl) (by first | exact fun _ _ _ h => h | exact fun _ _ _ h => HQP.out (by decide) h) (Or.inl ⟨by rfl, ?_⟩) (by assumption) ?_; rotate_left; (focus (intro wS hS; (try go_split_ands); go_simp; all_goals (with_reducible rfl))); simp only [List.set_cons_zero, List.set_cons_succ, List.setIfInBounds_toArray]); (refine Hd.takeE (i := 2) (v := ?_) rfl rfl (by kernel_rfl) (by kernel_rfl) (by kernel_rfl) (by kernel_rfl) (by first | exact fun _ _ _ h => h | exact fun _ _ _ h => HQP.out (by decide) h) (Or.inl ⟨by rfl, ?_⟩) (by assumption) ?_; rotate_left; (focus (intro wS hS; (try go_split_ands); go_simp; all_goals (with_reducible rfl))); simp only [List.set_cons_zero, List.set_cons_succ, List.setIfInBounds_toArray]); (refine Hd.takeE (i := 5) (v := ?_) rfl rfl (by kernel_rfl) (by kernel_rfl) (by kernel_rfl) (by kernel_rfl) (by first | exact fun _ _ _ h => h | exact fun _ _ _ h => HQP.out (by decide) h) (Or.inl ⟨by rfl, ?_⟩) (by assumption) ?_; rotate_left; (focus (intro wS hS; (try go_split_ands); go_simp; all_goals (with_reducible rfl))); simp only [List.set_cons_zero, List.set_cons_succ, List.setIfInBounds_toArray]); (refine Hd.takeE (i := 6) (v := ?_) rfl rfl (by kernel_rfl) (by kernel_rfl) (by kernel_rfl) (by kernel_rfl) (by first | exact fun _ _ _ h => h | exact fun _ _ _ h => HQP.out (by decide) h) (Or.inl ⟨by rfl, ?_⟩) (by assumption) ?_; rotate_left; (focus (intro wS hS; (try go_split_ands); go_simp; all_goals (with_reducible rfl))); simp only [List.set_cons_zero, List.set_cons_succ, List.setIfInBounds_toArray])
      ((refine Hd.readyE (rs := [3, 7]) (by kernel_rfl) (by simp) ?_; refine Hd.AllE.cons (i := 3) rfl (fun K hK => ?_) (Hd.AllE.cons (i := 7) rfl (fun K hK => ?_) (Hd.AllE.nil))); (focus (((refine Hd.step_of_list rfl ?_; refine Hd.step_run rfl (exec_conv rfl (by first | rfl | simp [Act.eval])) ?_; refine wpList_nil ?_); refine hK.out _ _ ((sHD (PD.out.conv _) (by first | exact List.mem_cons_self | exact List.mem_cons_of_mem _ List.mem_cons_self))) (fun hHeld => ?_); clear hK K; (try simp only [Act.put, List.setIfInBounds_toArray, List.set_cons_zero, List.set_cons_succ])); obtain ⟨wc1, hwc1⟩ : ∃ X, X = Lib.bytesWorld wd 5 (knm) := ⟨_, rfl⟩; rw [← hwc1]; have PC1 := Aside0.mk (show Pw _ wc1 _ _ _ from by rw [hwc1]; exact PD.out.conv _); have SC1 := Aside0.mk (show Src wc1 _ _ _ _ from by rw [hwc1]; exact Src.conv PD.out (knm) (by have := HFO.out.1; simp only [maxLen]; omega)); clear hwc1; (refine Hd.readyE (rs := [4, 7]) (by kernel_rfl) (by simp) ?_; refine Hd.AllE.cons (i := 4) rfl (fun K hK => ?_) (Hd.AllE.cons (i := 7) rfl (fun K hK => ?_) (Hd.AllE.nil))); (focus (((go_simp; (go_at_call 26; (with_reducible refine (PC1.out.text SC1.out (by have := n4_len HR.out i; have := HFO.out.1; omega)).mono ?_); rintro e wt1 ⟨vwt1, rfl, hwt1⟩)); refine hK.out _ _ ((sHD (hwt1) (by first | exact List.mem_cons_self | exact List.mem_cons_of_mem _ List.mem_cons_self))) (fun hHeld => ?_); clear hK K; (try simp only [Act.put, List.setIfInBounds_toArray, List.set_cons_zero, List.set_cons_succ])); have PT1 := Aside0.mk hwt1; clear hwt1; (refine Hd.readyE (rs := [7]) (by kernel_rfl) (by simp) ?_; refine Hd.AllE.cons (i := 7) rfl (fun K hK => ?_) Hd.AllE.nil; go_simp; refine hK.out _ _ ((sHD (PT1.out.alloc _) (by first | exact List.mem_cons_self | exact List.mem_cons_of_mem _ List.mem_cons_self))) (fun hHeld => ?_); clear hK K; (try simp only [Act.put, List.setIfInBounds_toArray, List.set_cons_zero, List.set_cons_succ])); obtain ⟨wl1, hwl1⟩ : ∃ X, X = wt1.alloc (.cells #[.int .i64 (kgen)] 3) := ⟨_, rfl⟩; rw [← hwl1]; have PL1 := Aside0.mk (show Pw _ wl1 _ _ _ from by rw [hwl1]; exact PT1.out.lit #[.int .i64 (kgen)] (t := 3) (by decide)); clear hwl1; (refine Hd.readyE (rs := [8]) (by kernel_rfl) (by simp) ?_; refine Hd.AllE.cons (i := 8) rfl (fun K hK => ?_) Hd.AllE.nil; (go_simp; (go_at_call 25; (with_reducible refine (PL1.out.numt (strB_len _) (z := kgen) List.mem_cons_self (by have := HFO.out.2; omega) (by have := HFO.out.2; omega) (by have := n4_len HR.out i; have := HFO.out.1; omega)).mono ?_); rintro e wn1 ⟨vwn1, rfl, hwn1⟩)); refine hK.out _ _ ((sHD (hwn1) (by first | exact List.mem_cons_self | exact List.mem_cons_of_mem _ List.mem_cons_self))) (fun hHeld => ?_); clear hK K; (try simp only [Act.put, List.setIfInBounds_toArray, List.set_cons_zero, List.set_cons_succ])); have PE := Aside0.mk (hwn1.less (fun x hx => List.mem_cons_of_mem _ hx)); clear hwn1; (refine Hd.takeE (i := 9) (v := ?_) rfl rfl (by kernel_rfl) (by kernel_rfl) (by kernel_rfl) (by kernel_rfl) (by first | exact fun _ _ _ h => h | exact fun _ _ _ h => HQP.out (by decide) h) (Or.inl ⟨by rfl, ?_⟩) (by assumption) ?_; rotate_left; (focus (intro wS hS; (try go_split_ands); go_simp; all_goals (with_reducible rfl))); simp only [List.set_cons_zero, List.set_cons_succ, List.setIfInBounds_toArray]); (refine Hd.endE (by kernel_rfl) ?_ _); (go_wp2_with fail; rw [← HAD.out]; go_roundg (n.held.length - (i + 1) + 1); (case measure => have := HG.out; omega); (case rel => exact ⟨i + 1, by go_num, by omega, ⟨rfl⟩, ⟨Eq.mpr (congrArg (Pw _ _ _ _) HE.out) (PE.out.less (fun x hx => List.mem_cons_of_mem _ hx))⟩⟩)))); (go_simp; refine hK.out _ _ ((sHD (PC1.out.alloc _) (by first | exact List.mem_cons_self | exact List.mem_cons_of_mem _ List.mem_cons_self))) (fun hHeld => ?_); clear hK K; (try simp only [Act.put, List.setIfInBounds_toArray, List.set_cons_zero, List.set_cons_succ])); obtain ⟨wl2, hwl2⟩ : ∃ X, X = wc1.alloc (.cells #[.int .i64 (kgen)] 3) := ⟨_, rfl⟩; rw [← hwl2]; have PL2 := Aside0.mk (show Pw _ wl2 _ _ _ from by rw [hwl2]; exact PC1.out.lit #[.int .i64 (kgen)] (t := 3) (by decide)); have SL2 := Aside0.mk (show Src wl2 _ _ _ _ from by rw [hwl2]; exact SC1.out.below (below_alloc (Below.refl _ _) _)); clear hwl2; (refine Hd.readyE (rs := [4]) (by kernel_rfl) (by simp) ?_; refine Hd.AllE.cons (i := 4) rfl (fun K hK => ?_) Hd.AllE.nil; (go_simp; (go_at_call 26; (with_reducible refine (PL2.out.text SL2.out (by have := n4_len HR.out i; have := HFO.out.1; omega)).mono ?_); rintro e wt2 ⟨vwt2, rfl, hwt2⟩)); refine hK.out _ _ ((sHD (hwt2) (by first | exact List.mem_cons_self | exact List.mem_cons_of_mem _ List.mem_cons_self))) (fun hHeld => ?_); clear hK K; (try simp only [Act.put, List.setIfInBounds_toArray, List.set_cons_zero, List.set_cons_succ])); have PT2 := Aside0.mk hwt2; clear hwt2; (refine Hd.readyE (rs := [8]) (by kernel_rfl) (by simp) ?_; refine Hd.AllE.cons (i := 8) rfl (fun K hK => ?_) Hd.AllE.nil; (go_simp; (go_at_call 25; (with_reducible refine (PT2.out.numt (strB_len _) (z := kgen) List.mem_cons_self (by have := HFO.out.2; omega) (by have := HFO.out.2; omega) (by have := n4_len HR.out i; have := HFO.out.1; omega)).mono ?_); rintro e wn2 ⟨vwn2, rfl, hwn2⟩)); refine hK.out _ _ ((sHD (hwn2) (by first | exact List.mem_cons_self | exact List.mem_cons_of_mem _ List.mem_cons_self))) (fun hHeld => ?_); clear hK K; (try simp only [Act.put, List.setIfInBounds_toArray, List.set_cons_zero, List.set_cons_succ])); have PE := Aside0.mk (hwn2.less (fun x hx => List.mem_cons_of_mem _ hx)); clear hwn2; (refine Hd.takeE (i := 9) (v := ?_) rfl rfl (by kernel_rfl) (by kernel_rfl) (by kernel_rfl) (by kernel_rfl) (by first | exact fun _ _ _ h => h | exact fun _ _ _ h => HQP.out (by decide) h) (Or.inl ⟨by rfl, ?_⟩) (by assumption) ?_; rotate_left; (focus (intro wS hS; (try go_split_ands); go_simp; all_goals (with_reducible rfl))); simp only [List.set_cons_zero, List.set_cons_succ, List.setIfInBounds_toArray]); (refine Hd.endE (by kernel_rfl) ?_ _); (go_wp2_with fail; rw [← HAD.out]; go_roundg (n.held.length - (i + 1) + 1); (case measure => have := HG.out; omega); (case rel => exact ⟨i + 1, by go_num, by omega, ⟨rfl⟩, ⟨Eq.mpr (congrArg (Pw _ _ _ _) HE.out) (PE.out.less (fun x hx => List.mem_cons_of_mem _ hx))⟩⟩)))); (go_simp; refine hK.out _ _ ((sHD (PD.out.alloc _) (by first | exact List.mem_cons_self | exact List.mem_cons_of_mem _ List.mem_cons_self))) (fun hHeld => ?_); clear hK K; (try simp only [Act.put, List.setIfInBounds_toArray, List.set_cons_zero, List.set_cons_succ])); obtain ⟨wl3, hwl3⟩ : ∃ X, X = wd.alloc (.cells #[.int .i64 (kgen)] 3) := ⟨_, rfl⟩; rw [← hwl3]; have PL3 := Aside0.mk (show Pw _ wl3 _ _ _ from by rw [hwl3]; exact PD.out.lit #[.int .i64 (kgen)] (t := 3) (by decide)); clear hwl3; (refine Hd.readyE (rs := [3]) (by kernel_rfl) (by simp) ?_; refine Hd.AllE.cons (i := 3) rfl (fun K hK => ?_) Hd.AllE.nil; (refine Hd.step_of_list rfl ?_; refine Hd.step_run rfl (exec_conv rfl (by first | rfl | simp [Act.eval])) ?_; refine wpList_nil ?_); refine hK.out _ _ ((sHD (PL3.out.conv _) (by first | exact List.mem_cons_self | exact List.mem_cons_of_mem _ List.mem_cons_self))) (fun hHeld => ?_); clear hK K; (try simp only [Act.put, List.setIfInBounds_toArray, List.set_cons_zero, List.set_cons_succ])); obtain ⟨wc3, hwc3⟩ : ∃ X, X = Lib.bytesWorld wl3 5 (knm) := ⟨_, rfl⟩; rw [← hwc3]; have PC3 := Aside0.mk (show Pw _ wc3 _ _ _ from by rw [hwc3]; exact PL3.out.conv _); have SC3 := Aside0.mk (show Src wc3 _ _ _ _ from by rw [hwc3]; exact Src.conv PL3.out (knm) (by have := HFO.out.1; simp only [maxLen]; omega)); clear hwc3; (refine Hd.readyE (rs := [4]) (by kernel_rfl) (by simp) ?_; refine Hd.AllE.cons (i := 4) rfl (fun K hK => ?_) Hd.AllE.nil; (go_simp; (go_at_call 26; (with_reducible refine (PC3.out.text SC3.out (by have := n4_len HR.out i; have := HFO.out.1; omega)).mono ?_); rintro e wt3 ⟨vwt3, rfl, hwt3⟩)); refine hK.out _ _ ((sHD (hwt3) (by first | exact List.mem_cons_self | exact List.mem_cons_of_mem _ List.mem_cons_self))) (fun hHeld => ?_); clear hK K; (try simp only [Act.put, List.setIfInBounds_toArray, List.set_cons_zero, List.set_cons_succ])); have PT3 := Aside0.mk hwt3; clear hwt3; (refine Hd.readyE (rs := [8]) (by kernel_rfl) (by simp) ?_; refine Hd.AllE.cons (i := 8) rfl (fun K hK => ?_) Hd.AllE.nil; (go_simp; (go_at_call 25; (with_reducible refine (PT3.out.numt (strB_len _) (z := kgen) List.mem_cons_self (by have := HFO.out.2; omega) (by have := HFO.out.2; omega) (by have := n4_len HR.out i; have := HFO.out.1; omega)).mono ?_); rintro e wn3 ⟨vwn3, rfl, hwn3⟩)); refine hK.out _ _ ((sHD (hwn3) (by first | exact List.mem_cons_self | exact List.mem_cons_of_mem _ List.mem_cons_self))) (fun hHeld => ?_); clear hK K; (try simp only [Act.put, List.setIfInBounds_toArray, List.set_cons_zero, List.set_cons_succ])); have PE := Aside0.mk (hwn3.less (fun x hx => List.mem_cons_of_mem _ hx)); clear hwn3; (refine Hd.takeE (i := 9) (v := ?_) rfl rfl (by kernel_rfl) (by kernel_rfl) (by kernel_rfl) (by kernel_rfl) (by first | exact fun _ _ _ h => h | exact fun _ _ _ h => HQP.out (by decide) h) (Or.inl ⟨by rfl, ?_⟩) (by assumption) ?_; rotate_left; (focus (intro wS hS; (try go_split_ands); go_simp; all_goals (with_reducible rfl))); simp only [List.set_cons_zero, List.set_cons_succ, List.setIfInBounds_toArray]); (refine Hd.endE (by kernel_rfl) ?_ _); (go_wp2_with fail; rw [← HAD.out]; go_roundg (n.held.length - (i + 1) + 1); (case measure => have := HG.out; omega); (case rel => exact ⟨i + 1, by go_num, by omega, ⟨rfl⟩, ⟨Eq.mpr (congrArg (Pw _ _ _ _) HE.out) (PE.out.less (fun x hx => List.mem_cons_of_mem _ hx))⟩⟩)))
    · have h1 : decide ((i : Int) < (n.held.length : Int)) = false := by simp; omega
      obtain rfl : i = n.held.length := by omega
      clear hlt hi
      have P5 := P5
      obtain ⟨hnote, x0, x1, x2, x3, x4⟩ := Pw.note P5.out (fun x hx => hx)
      obtain ⟨c0, c1, c2, c3, c4, c5, c6⟩ := note_cells hnote
      clear hnote
      go_upto_if 67 with fail
      go_cut [6] (fun s6 wx => Aside0 (Pw w wx (Ls w.heap.size w3.heap.size n a) s6 (n5 n)))
      case first =>
        by_cases hf : hasP n.say = true
        · have HE : Aside0 (n5 n = n4 n n.held.length ++ numB ((n.parts.length : Int)).toNat) := ⟨by unfold n5; rw [if_pos hf]; try rfl⟩
          rw [hf]
          go_wp2_with fail
          refine (P5.out.num1 ((n.parts.length : Int)) (by omega) (by have := HR.out.p; omega) (by have := n4_len HR.out n.held.length; omega)).mono ?_
          rintro e w9 ⟨v9, rfl, h9⟩
          go_wp2_with fail
          go_meet
          exact ⟨Eq.mpr (congrArg (Pw _ _ _ _) HE.out) h9⟩
        · have HE : Aside0 (n5 n = n4 n n.held.length) := ⟨by unfold n5; rw [if_neg hf, List.append_nil]⟩
          rw [show hasP n.say = false by simpa using hf]
          go_wp2_with fail
          go_meet
          exact ⟨by rw [HE.out]; exact P5.out⟩
      case rest =>
      have P6 := hcut
      clear hcut
      clear c0 c1 c2 c3 c4 c5 c6 x0 x1 x2 x3 x4
      obtain ⟨hnote, x0, x1, x2, x3, x4⟩ := Pw.note P6.out (fun x hx => hx)
      obtain ⟨c0, c1, c2, c3, c4, c5, c6⟩ := note_cells hnote
      clear hnote
      go_wp2_with fail
      have hp256 := HR.out.p
      go_loopg [6, 77] (n.parts.length + 1) (fun gk v6 v77 wr => ∃ i : Nat, v77 = .int .i64 i ∧ i ≤ n.parts.length ∧ Aside0 (gk = n.parts.length - i + 1) ∧ Aside0 (Pw w wr (Ls w.heap.size w3.heap.size n a) v6 (n6 n i)))
      case atStart => exact ⟨0, rfl, Nat.zero_le _, ⟨rfl⟩, ⟨by simpa [n6] using P6.out⟩⟩
      case round =>
        clear c0 c1 c2 c3 c4 c5 c6 x0 x1 x2 x3 x4
        obtain ⟨i, rfl, hi, HG, P7⟩ := hrel
        by_cases hlt : i < n.parts.length
        · have h1 : decide ((i : Int) < (n.parts.length : Int)) = true := by simp; omega
          have hp1 : (0 : Int) ≤ (i : Int) := by omega
          have hp2 : (i : Int) < (n.parts.length : Int) := by omega
          obtain ⟨ad, had, hok, hra⟩ := pt_at (Kd.C_below H.out.p P7.out.b) i hlt
          have hmem : n.parts.getD i default ∈ n.parts := by
            rw [show n.parts.getD i default = n.parts[i] from by simp [hlt]]
            exact List.getElem_mem _
          have HLN : Aside0 (1 ≤ (n.parts.getD i default).len ∧ (n.parts.getD i default).len ≤ 512) := ⟨HR.out.ps _ hmem⟩
          have HE : Aside0 (n6 n (i + 1) = n6 n i ++ (n.parts.getD i default).s ++ numB (n.parts.getD i default).len.toNat) := ⟨by
            unfold n6
            rw [List.take_add_one, List.getElem?_eq_getElem hlt, List.flatMap_append, show n.parts.getD i default = n.parts[i] from by simp [hlt]]
            simp [partB]⟩
          have HL6 := Aside0.mk (n6_len HR.out HPS.out i)
          generalize n.parts.getD i default = k at *
          have HAD := Aside0.mk had
          have HRA := Aside0.mk hra
          have HI := Aside0.mk (infoPtS (Pt.cells_len hok))
          have HU := Aside0.mk Try.underlying51
          have HI2 : Aside0 ((Try.prog.info? 51).map (·.size) = some k.cells.toArray.size) := ⟨by rw [List.size_toArray]; exact HI.out⟩
          obtain ⟨Z, hz, hzv⟩ := zeroPt
          have HZV := Aside0.mk hzv
          have HZC := Aside0.mk (show Z.size = k.cells.toArray.size from hz.trans (by rw [List.size_toArray, Pt.cells_len hok]))
          have HON : Aside0 (k.cells.toArray.all (·.oneCell') = true) := ⟨all_oneCell_toArray (Pt.one k)⟩
          have HSL := Aside0.mk hok.n
          have HS : Aside0 (∀ {X : World} {v : Value} {xs : List Int} {L : List (Nat × Array Value × TypeId)} {g : Nat}, Pw w X L v xs → (g, k.cells.toArray, 51) ∈ L → X.cell? ⟨g, 32, none⟩ = some (.int .i64 k.len)) := ⟨fun h hl => obj_cell (h.get _ hl) 32 (by rw [List.getElem?_toArray]; exact Pt.cell hok)⟩
          have HSM : Aside0 (∀ {X : World} {v : Value} {xs : List Int} {L : List (Nat × Array Value × TypeId)} {g : Nat}, Pw w X L v xs → (g, k.cells.toArray, 51) ∈ L → (Kd.int .u8).C X (some ⟨g, 0, none⟩) 32 k.s) := ⟨fun h hl => sum_of_part (h.get _ hl) hok⟩
          clear hok hmem had hra hz hzv
          generalize k.cells = C at *
          generalize k.len = kl at *
          generalize k.s = ks at *
          rw [HAD.out]
          go_wp2_with (first
            | ((with_reducible refine gate_ (.load 51 (.tmp 79)) rfl ?_); refine Hd.wpList_load_any rfl _ (.tmp 79) rfl _ rfl C _ HRA.out HU.out rfl HI.out ?_)
            | ((with_reducible refine gate_ (.alloc 51) rfl ?_); refine Hd.step_run rfl (Hd.exec_alloc _ rfl _ (HZV.out _)) ?_; refine Hd.wpList_store_new rfl _ _ _ rfl _ Z C.toArray rfl rfl HZC.out HI2.out HON.out ?_))
          obtain ⟨wa, hwa⟩ : ∃ wa, wa = wr.alloc (.cells C.toArray 51) := ⟨_, rfl⟩
          have PD : Aside0 (Pw w wa.drew ((wr.heap.size, C.toArray, 51) :: Ls w.heap.size w3.heap.size n a) u6 (n6 n i)) := ⟨by rw [hwa]; exact (P7.out.lit C.toArray (t := 51) (by decide)).drew⟩
          obtain ⟨wd, hwd⟩ : ∃ wd, wd = wa.drew := ⟨_, rfl⟩
          rw [← hwd] at PD
          rw [← hwa]
          clear hwa
          simp only [Act.put, List.setIfInBounds_toArray, List.set_cons_zero, List.set_cons_succ]
          (refine Hd.startE (S := (fun X => X.cell? ⟨wr.heap.size, 32, none⟩ = some (.int .i64 kl))) 1000 (by kernel_rfl) ((by rw [← hwd]; exact HS.out PD.out List.mem_cons_self)) (fun hHeld => ?_))
          rw [← hwd]
          rw [← hwd] at hHeld
          clear hwd
          (refine Hd.takeE (i := 0) (v := ?_) rfl rfl (by kernel_rfl) (by kernel_rfl) (by kernel_rfl) (by kernel_rfl) (by first | exact fun _ _ _ h => h | exact fun _ _ _ h => HQP.out (by decide) h) (Or.inl ⟨by rfl, ?_⟩) (by assumption) ?_; rotate_left; (focus (intro wS hS; (try go_split_ands); go_simp; all_goals (with_reducible rfl))); simp only [List.set_cons_zero, List.set_cons_succ, List.setIfInBounds_toArray]); (refine Hd.takeE (i := 1) (v := ?_) rfl rfl (by kernel_rfl) (by kernel_rfl) (by kernel_rfl) (by kernel_rfl) (by first | exact fun _ _ _ h => h | exact fun _ _ _ h => HQP.out (by decide) h) (Or.inl ⟨by rfl, ?_⟩) (by assumption) ?_; rotate_left; (focus (intro wS hS; (try go_split_ands); go_simp; all_goals (with_reducible rfl))); simp only [List.set_cons_zero, List.set_cons_succ, List.setIfInBounds_toArray]); (refine Hd.takeE (i := 2) (v := ?_) rfl rfl (by kernel_rfl) (by kernel_rfl) (by kernel_rfl) (by kernel_rfl) (by first | exact fun _ _ _ h => h | exact fun _ _ _ h => HQP.out (by decide) h) (Or.inl ⟨by rfl, ?_⟩) (by assumption) ?_; rotate_left; (focus (intro wS hS; (try go_split_ands); go_simp; all_goals (with_reducible rfl))); simp only [List.set_cons_zero, List.set_cons_succ, List.setIfInBounds_toArray]); (refine Hd.takeE (i := 4) (v := ?_) rfl rfl (by kernel_rfl) (by kernel_rfl) (by kernel_rfl) (by kernel_rfl) (by first | exact fun _ _ _ h => h | exact fun _ _ _ h => HQP.out (by decide) h) (Or.inl ⟨by rfl, ?_⟩) (by assumption) ?_; rotate_left; (focus (intro wS hS; (try go_split_ands); go_simp; all_goals (with_reducible rfl))); simp only [List.set_cons_zero, List.set_cons_succ, List.setIfInBounds_toArray]); (refine Hd.takeE (i := 5) (v := ?_) rfl rfl (by kernel_rfl) (by kernel_rfl) (by kernel_rfl) (by kernel_rfl) (by first | exact fun _ _ _ h => h | exact fun _ _ _ h => HQP.out (by decide) h) (Or.inl ⟨by rfl, ?_⟩) (by assumption) ?_; rotate_left; (focus (intro wS hS; (try go_split_ands); go_simp; all_goals (with_reducible rfl))); simp only [List.set_cons_zero, List.set_cons_succ, List.setIfInBounds_toArray])
          (refine Hd.readyE (rs := [3, 6]) (by kernel_rfl) (by simp) ?_; refine Hd.AllE.cons (i := 3) rfl (fun K hK => ?_) (Hd.AllE.cons (i := 6) rfl (fun K hK => ?_) (Hd.AllE.nil)))
          · ((refine Hd.step_of_list rfl ?_; refine app (Kd.int .u8) (flat_int .u8) w.heap.size (w0 := wd) (.tmp 81) (.tmp 83) 25 5 (.int .u8 0) 1 rfl rfl Try.underlying25 infoU8 rfl (by decide) (by decide) _ (n6 n i) ks (some ⟨wr.heap.size, 0, none⟩) 32 32 (by rfl) (by first | rfl | simp [Act.eval]) PD.out.own (HSM.out PD.out List.mem_cons_self) (Below.refl _ _) PD.out.b.size (by have := HL6.out; omega) ?_; intro v3 w4 ho3 hb3 hg3 hat3; refine wpList_nil ?_); refine hK.out _ _ (HS.out (PD.out.grew ho3 hb3 ⟨hg3, hat3⟩) List.mem_cons_self) (fun hHeld => ?_); clear hK K; (try simp only [Act.put, List.setIfInBounds_toArray, List.set_cons_zero, List.set_cons_succ]))
            have PA := Aside0.mk (PD.out.grew ho3 hb3 ⟨hg3, hat3⟩)
            clear ho3 hb3 hg3 hat3
            (refine Hd.readyE (rs := [6]) (by kernel_rfl) (by simp) ?_; refine Hd.AllE.cons (i := 6) rfl (fun K hK => ?_) Hd.AllE.nil; go_simp; refine hK.out _ _ (HS.out (PA.out.alloc _) List.mem_cons_self) (fun hHeld => ?_); clear hK K; (try simp only [Act.put, List.setIfInBounds_toArray, List.set_cons_zero, List.set_cons_succ]))
            obtain ⟨w5, h5⟩ : ∃ X, X = w4.alloc (.cells #[.int .i64 kl] 3) := ⟨_, rfl⟩
            rw [← h5]
            have PL := Aside0.mk (show Pw _ w5 _ _ _ from by rw [h5]; exact PA.out.lit #[.int .i64 kl] (t := 3) (by decide))
            clear h5
            (refine Hd.readyE (rs := [7]) (by kernel_rfl) (by simp) ?_; refine Hd.AllE.cons (i := 7) rfl (fun K hK => ?_) Hd.AllE.nil; (go_simp; (go_at_call 25; (with_reducible refine (PL.out.numl (z := kl) List.mem_cons_self (by have := HLN.out.1; omega) (by have := HLN.out.2; omega) (by have := HL6.out; have := HSL.out; rw [List.length_append]; omega)).mono ?_); rintro e w6 ⟨v6, rfl, h6⟩)); refine hK.out _ _ (HS.out h6 (List.mem_cons_of_mem _ List.mem_cons_self)) (fun hHeld => ?_); clear hK K; (try simp only [Act.put, List.setIfInBounds_toArray, List.set_cons_zero, List.set_cons_succ]))
            have PE := Aside0.mk (h6.less (fun x hx => List.mem_cons_of_mem _ (List.mem_cons_of_mem _ hx)))
            clear h6
            (refine Hd.takeE (i := 8) (v := ?_) rfl rfl (by kernel_rfl) (by kernel_rfl) (by kernel_rfl) (by kernel_rfl) (by first | exact fun _ _ _ h => h | exact fun _ _ _ h => HQP.out (by decide) h) (Or.inl ⟨by rfl, ?_⟩) (by assumption) ?_; rotate_left; (focus (intro wS hS; (try go_split_ands); go_simp; all_goals (with_reducible rfl))); simp only [List.set_cons_zero, List.set_cons_succ, List.setIfInBounds_toArray])
            (refine Hd.endE (by kernel_rfl) ?_ _)
            go_wp2_with fail
            rw [← HAD.out]
            go_roundg (n.parts.length - (i + 1) + 1)
            case measure => have := HG.out; omega
            case rel => exact ⟨i + 1, by go_num, by omega, ⟨rfl⟩, ⟨Eq.mpr (congrArg (Pw _ _ _ _) HE.out) PE.out⟩⟩
          · (go_simp; refine hK.out _ _ (HS.out (PD.out.alloc _) List.mem_cons_self) (fun hHeld => ?_); clear hK K; (try simp only [Act.put, List.setIfInBounds_toArray, List.set_cons_zero, List.set_cons_succ]))
            obtain ⟨w5, h5⟩ : ∃ X, X = wd.alloc (.cells #[.int .i64 kl] 3) := ⟨_, rfl⟩
            rw [← h5]
            have PL := Aside0.mk (show Pw _ w5 _ _ _ from by rw [h5]; exact PD.out.lit #[.int .i64 kl] (t := 3) (by decide))
            clear h5
            (refine Hd.readyE (rs := [3]) (by kernel_rfl) (by simp) ?_; refine Hd.AllE.cons (i := 3) rfl (fun K hK => ?_) Hd.AllE.nil; (refine Hd.step_of_list rfl ?_; refine app (Kd.int .u8) (flat_int .u8) w.heap.size (w0 := w5) (.tmp 81) (.tmp 83) 25 5 (.int .u8 0) 1 rfl rfl Try.underlying25 infoU8 rfl (by decide) (by decide) _ (n6 n i) ks (some ⟨wr.heap.size, 0, none⟩) 32 32 (by rfl) (by first | rfl | simp [Act.eval]) PL.out.own (HSM.out PL.out (List.mem_cons_of_mem _ List.mem_cons_self)) (Below.refl _ _) PL.out.b.size (by have := HL6.out; omega) ?_; intro v3 w4 ho3 hb3 hg3 hat3; refine wpList_nil ?_); refine hK.out _ _ (HS.out (PL.out.grew ho3 hb3 ⟨hg3, hat3⟩) (List.mem_cons_of_mem _ List.mem_cons_self)) (fun hHeld => ?_); clear hK K; (try simp only [Act.put, List.setIfInBounds_toArray, List.set_cons_zero, List.set_cons_succ]))
            have PA := Aside0.mk (PL.out.grew ho3 hb3 ⟨hg3, hat3⟩)
            clear ho3 hb3 hg3 hat3
            (refine Hd.readyE (rs := [7]) (by kernel_rfl) (by simp) ?_; refine Hd.AllE.cons (i := 7) rfl (fun K hK => ?_) Hd.AllE.nil; (go_simp; (go_at_call 25; (with_reducible refine (PA.out.numl (z := kl) List.mem_cons_self (by have := HLN.out.1; omega) (by have := HLN.out.2; omega) (by have := HL6.out; have := HSL.out; rw [List.length_append]; omega)).mono ?_); rintro e w6 ⟨v6, rfl, h6⟩)); refine hK.out _ _ (HS.out h6 (List.mem_cons_of_mem _ List.mem_cons_self)) (fun hHeld => ?_); clear hK K; (try simp only [Act.put, List.setIfInBounds_toArray, List.set_cons_zero, List.set_cons_succ]))
            have PE := Aside0.mk (h6.less (fun x hx => List.mem_cons_of_mem _ (List.mem_cons_of_mem _ hx)))
            clear h6
            (refine Hd.takeE (i := 8) (v := ?_) rfl rfl (by kernel_rfl) (by kernel_rfl) (by kernel_rfl) (by kernel_rfl) (by first | exact fun _ _ _ h => h | exact fun _ _ _ h => HQP.out (by decide) h) (Or.inl ⟨by rfl, ?_⟩) (by assumption) ?_; rotate_left; (focus (intro wS hS; (try go_split_ands); go_simp; all_goals (with_reducible rfl))); simp only [List.set_cons_zero, List.set_cons_succ, List.setIfInBounds_toArray])
            (refine Hd.endE (by kernel_rfl) ?_ _)
            go_wp2_with fail
            rw [← HAD.out]
            go_roundg (n.parts.length - (i + 1) + 1)
            case measure => have := HG.out; omega
            case rel => exact ⟨i + 1, by go_num, by omega, ⟨rfl⟩, ⟨Eq.mpr (congrArg (Pw _ _ _ _) HE.out) PE.out⟩⟩
        · have h1 : decide ((i : Int) < (n.parts.length : Int)) = false := by simp; omega
          obtain rfl : i = n.parts.length := by omega
          clear hlt hi
          obtain ⟨hnote, x0, x1, x2, x3, x4⟩ := Pw.note P7.out (fun x hx => hx)
          obtain ⟨c0, c1, c2, c3, c4, c5, c6⟩ := note_cells hnote
          clear hnote
          by_cases hf : hasB n.say = true
          · have HE : Aside0 (noteB n = n6 n n.parts.length ++ (numB n.bytes.length ++ n.bytes)) := ⟨by unfold noteB; rw [if_pos hf]; rfl⟩
            rw [hf] at x4
            go_wp2_with fail
            refine (P7.out.text (Src.came P7.out (n := n.bytes.length) (ps := n.bytes) H.out.b) (by have := n6_len HR.out HPS.out n.parts.length; have := HR.out.b; omega)).mono ?_
            rintro e w9 ⟨v9, rfl, h9⟩
            have H9 := Aside0.mk h9
            clear h9
            go_wp2_with fail
            go_ret2
            exact ⟨_, rfl, Eq.mpr (congrArg (Kd.R _ _ _ _ _ _) HE.out) H9.out.own, H9.out.b⟩
          · have HE : Aside0 (noteB n = n6 n n.parts.length) := ⟨by unfold noteB; rw [if_neg hf, List.append_nil]⟩
            rw [show hasB n.say = false by simpa using hf] at x4
            go_wp2_with fail
            go_ret2
            exact ⟨_, rfl, by rw [HE.out]; exact P7.out.own, P7.out.b⟩
end Go.Proofs.Ytbncmffifbcbjaa.WiP
