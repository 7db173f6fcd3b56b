/- A note's bytes and the note of bytes are each other's back: plain. -/
import Derived.Test.YtbncmffifbcbjaaWiMf
namespace Go.Proofs.Ytbncmffifbcbjaa.WiBk
open Go Go.RowKit Go.Proofs.YtbncmffifbcbjaaW.PrintWords Go.Proofs.Ytbncmffifbcbjaa.K Go.Proofs.Ytbncmffifbcbjaa.OctS Go.Proofs.Ytbncmffifbcbjaa.OctP Go.Proofs.Ytbncmffifbcbjaa.Nm Go.Proofs.Ytbncmffifbcbjaa.Hl Go.Proofs.Ytbncmffifbcbjaa.WiA Go.Proofs.Ytbncmffifbcbjaa.WiD Go.Proofs.Ytbncmffifbcbjaa.WiE Go.Proofs.Ytbncmffifbcbjaa.WiF Go.Proofs.Ytbncmffifbcbjaa.WiT Go.Proofs.Ytbncmffifbcbjaa.WiR Go.Proofs.Ytbncmffifbcbjaa.WiU Go.Proofs.Ytbncmffifbcbjaa.WiP Go.Proofs.Ytbncmffifbcbjaa.WiV Go.Proofs.Ytbncmffifbcbjaa.WiM Go.Proofs.Ytbncmffifbcbjaa.WiMf
set_option linter.unusedVariables false
set_option linter.unusedSimpArgs false
theorem takeNum_put {b u r : List Int} {n : Nat} {pl : Int} (hb : b = u ++ (numB n ++ r)) (hp : pl = u.length) (h : n ≤ 9007199254740991) : takeNum b pl = ((n : Int), ((u ++ numB n).length : Int), 0) := by
  rw [hb, hp, takeNum_numB u r n h, List.length_append]
  rfl
theorem takeText_put {b u s r : List Int} {pl : Int} {most : Nat} (hb : b = u ++ (textB s ++ r)) (hp : pl = u.length) (h : s.length ≤ most) (h2 : s.length ≤ 9007199254740991) : takeText b pl most = (s, ((u ++ textB s).length : Int), 0) := by
  have hb2 : b = u ++ (numB s.length ++ (s ++ r)) := by rw [hb]; unfold textB; simp only [List.append_assoc]
  have hn := takeNum_put hb2 hp h2
  have hb3 : b = (u ++ numB s.length) ++ (s ++ r) := by rw [hb2]; simp only [List.append_assoc]
  rw [takeText_o b pl most (by rw [hn]) (by rw [hn]; simp only; omega) (by rw [hn, hb3]; simp only [List.length_append]; omega), hn]
  simp only
  have e1 : (((u ++ numB s.length).length : Int) + (s.length : Int)).toNat = (u ++ numB s.length ++ s).length := by simp only [List.length_append]; omega
  have e2 : b.take (u ++ numB s.length ++ s).length = u ++ numB s.length ++ s := by
    rw [hb3, ← List.append_assoc (u ++ numB s.length) s r, List.take_left]
  rw [e1, e2, Int.toNat_natCast, List.drop_left]
  unfold textB
  simp only [List.length_append]
  congr 2
  omega
theorem num_put {b u r : List Int} {n : Nat} (hb : b = u ++ (numB n ++ r)) (h : n ≤ 9007199254740991) : numR b ⟨(u.length : Int), 0⟩ = ((n : Int), ⟨((u ++ numB n).length : Int), 0⟩) := by
  have h1 := takeNum_put hb (pl := (u.length : Int)) rfl h
  rw [num_ok (by rw [h1]), h1]
theorem text_put {b u s r : List Int} {most : Nat} (hb : b = u ++ (textB s ++ r)) (h : s.length ≤ most) (h2 : most ≤ 9007199254740991) : textR b ⟨(u.length : Int), 0⟩ most = (s, ⟨((u ++ textB s).length : Int), 0⟩) := by
  have h1 := takeText_put hb (pl := (u.length : Int)) rfl h (by omega)
  rw [text_ok (by rw [h1]), h1]
theorem many_put {b u r : List Int} {n : Nat} {most : Nat} (hb : b = u ++ (numB n ++ r)) (h : n ≤ most) (h2 : most ≤ 9007199254740991) : manyR b ⟨(u.length : Int), 0⟩ most = ((n : Int), ⟨((u ++ numB n).length : Int), 0⟩) := by
  have h1 := takeNum_put hb (pl := (u.length : Int)) rfl (by omega)
  rw [many_ok (by rw [h1]) (by rw [h1]; simp only; omega), h1]
theorem held_put {b u r : List Int} {x : Hl} {t : Nt} (hb : b = u ++ (heldB x ++ r)) (h : fileOk x.name x.gen) : heldS b (t, ⟨(u.length : Int), 0⟩) = ({ t with held := t.held ++ [x] }, ⟨((u ++ heldB x).length : Int), 0⟩) := by
  have hb1 : b = u ++ (textB (strB x.name) ++ (numB x.gen.toNat ++ r)) := by rw [hb]; unfold heldB; simp only [List.append_assoc]
  have hl : (strB x.name).length ≤ 32 := by rw [strB_len]; exact h.1.2.1
  have k1 : textR b ⟨(u.length : Int), 0⟩ 32 = _ := text_put (most := 32) hb1 hl (by omega)
  have hb2 : b = (u ++ textB (strB x.name)) ++ (numB x.gen.toNat ++ r) := by rw [hb1]; simp only [List.append_assoc]
  have k2 := num_put hb2 (by have := h.2; omega)
  unfold heldS
  simp only
  rw [k1]
  simp only
  rw [k2]
  simp only
  have hg : ((x.gen.toNat : Nat) : Int) = x.gen := by have := h.2; omega
  rw [hg, strOf_strB]
  unfold heldB
  simp only [List.append_assoc]
theorem part_put {b u r : List Int} {x : Pt} {t : Nt} (hb : b = u ++ (partB x ++ r)) (h : x.s.length = 32) (h2 : 1 ≤ x.len ∧ x.len ≤ 512) : partS b (t, ⟨(u.length : Int), 0⟩) = ({ t with parts := t.parts ++ [x] }, ⟨((u ++ partB x).length : Int), 0⟩) := by
  have hb1 : b = u ++ (x.s ++ (numB x.len.toNat ++ r)) := by rw [hb]; unfold partB; simp only [List.append_assoc]
  have hb2 : b = (u ++ x.s) ++ (numB x.len.toNat ++ r) := by rw [hb1]; simp only [List.append_assoc]
  have hlen : 32 ≤ (b.length : Int) - (u.length : Int) := by rw [hb1]; simp only [List.length_append, h]; omega
  have k1 : sumR b ⟨(u.length : Int), 0⟩ = (x.s, ⟨((u ++ x.s).length : Int), 0⟩) := by
    unfold sumR
    rw [if_pos hlen]
    simp only [Int.toNat_natCast]
    rw [hb1, List.drop_left, ← h, List.take_left, List.length_append, h]
    rfl
  have k2 := num_put hb2 (by omega)
  unfold partS partR
  simp only
  rw [k1]
  simp only
  rw [k2]
  simp only
  have hg : ((x.len.toNat : Nat) : Int) = x.len := by omega
  rw [hg]
  unfold partB
  simp only [List.append_assoc]
theorem loop_put {α : Type} {b : List Int} {f : Nt × Rs → Nt × Rs} {g : α → List Int} {add : Nt → α → Nt} {ok : α → Prop} (hf : ∀ (u r : List Int) (x : α) (t : Nt), ok x → b = u ++ (g x ++ r) → f (t, ⟨(u.length : Int), 0⟩) = (add t x, ⟨((u ++ g x).length : Int), 0⟩)) :
    ∀ (xs : List α) (u r : List Int) (t : Nt), (∀ x ∈ xs, ok x) → b = u ++ (xs.flatMap g ++ r) → loopS f xs.length (t, ⟨(u.length : Int), 0⟩) = (xs.foldl add t, ⟨((u ++ xs.flatMap g).length : Int), 0⟩)
  | [], u, r, t, _, _ => by simp [loopS]
  | x :: xs, u, r, t, h, hb => by
    have h1 := hf u (xs.flatMap g ++ r) x t (h x List.mem_cons_self) (by rw [hb]; simp only [List.flatMap_cons, List.append_assoc])
    have h2 := loop_put hf xs (u ++ g x) r (add t x) (fun y hy => h y (List.mem_cons_of_mem _ hy)) (by rw [hb]; simp only [List.flatMap_cons, List.append_assoc])
    show (if (0 : Int) = 0 then loopS f xs.length (f (t, ⟨(u.length : Int), 0⟩)) else _) = _
    rw [if_pos rfl, h1, h2]
    simp only [List.foldl_cons, List.flatMap_cons, List.append_assoc]
theorem foldH : ∀ (xs : List Hl) (t : Nt), xs.foldl (fun t x => { t with held := t.held ++ [x] }) t = { t with held := t.held ++ xs }
  | [], t => by simp
  | x :: xs, t => by rw [List.foldl_cons, foldH xs]; simp
theorem foldP : ∀ (xs : List Pt) (t : Nt), xs.foldl (fun t x => { t with parts := t.parts ++ [x] }) t = { t with parts := t.parts ++ xs }
  | [], t => by simp
  | x :: xs, t => by rw [List.foldl_cons, foldP xs]; simp
/-- TAKE OF PUT IS THE NOTE. -/
theorem takeF_put (n : Nt) (h : Right n) (hp : ∀ x ∈ n.parts, x.s.length = 32) (hc : checkF n = 0) : takeF (noteB n) = (n, 0) := by
  have hbare := h.bare
  unfold bareF at hbare
  simp only [Bool.and_eq_true, Bool.or_eq_true, List.isEmpty_iff, beq_iff_eq] at hbare
  obtain ⟨⟨⟨⟨b1, b2⟩, b3⟩, b4⟩, b5⟩ := hbare
  generalize hb : noteB n = b
  -- the pieces
  let r1 : List Int := if hasF n.say then textB (strB n.name) ++ numB n.gen.toNat else []
  let r2 : List Int := if hasI n.say then numB n.i.toNat else []
  let r3 : List Int := if hasH n.say then numB n.held.length else []
  let r4 : List Int := n.held.flatMap heldB
  let r5 : List Int := if hasP n.say then numB n.parts.length else []
  let r6 : List Int := n.parts.flatMap partB
  let r7 : List Int := if hasB n.say then textB n.bytes else []
  have hbb : b = n0 n ++ (r1 ++ (r2 ++ (r3 ++ (r4 ++ (r5 ++ (r6 ++ r7)))))) := by
    rw [← hb]
    unfold noteB n6 n5 n4 n3 n2 n1
    rw [List.take_length, List.take_length]
    simp only [List.append_assoc, r1, r2, r3, r4, r5, r6, r7]
  have hsy : ((n.say.toNat : Nat) : Int) = n.say := by have := h.s1; omega
  have k0 : numR b ⟨0, 0⟩ = (n.say, ⟨((n0 n).length : Int), 0⟩) := by
    have := num_put (b := b) (u := []) (n := n.say.toNat) (r := r1 ++ (r2 ++ (r3 ++ (r4 ++ (r5 ++ (r6 ++ r7)))))) (by rw [hbb]; rfl) (by have := h.s2; omega)
    rw [hsy] at this
    exact this
  have hso : sayOf b = n.say := by unfold sayOf; rw [k0]
  have e0 : sayS b = (⟨n.say, ⟨#[]⟩, 0, 0, [], [], []⟩, ⟨((n0 n).length : Int), 0⟩) := by
    unfold sayS
    rw [k0]
    simp only
    rw [decide_eq_true (⟨h.s1, h.s2⟩ : 1 ≤ n.say ∧ n.say ≤ 7)]
    rfl
  have e1 : s1 b = (⟨n.say, n.name, n.gen, 0, [], [], []⟩, ⟨((n0 n ++ r1).length : Int), 0⟩) := by
    unfold s1
    rw [hso, e0]
    by_cases hf : hasF n.say = true
    · have hr : r1 = textB (strB n.name) ++ numB n.gen.toNat := if_pos hf
      have hfo := h.f hf
      have ht := held_put (b := b) (u := n0 n) (x := ⟨n.name, n.gen⟩) (r := r2 ++ (r3 ++ (r4 ++ (r5 ++ (r6 ++ r7))))) (t := ⟨n.say, ⟨#[]⟩, 0, 0, [], [], []⟩) (by rw [hbb, hr]; rfl) hfo
      unfold heldS at ht
      simp only [Prod.mk.injEq, Nt.mk.injEq] at ht
      rw [if_pos hf]
      unfold fileS
      simp only
      simp only [List.nil_append, List.cons.injEq, Hl.mk.injEq, and_true, true_and] at ht
      rw [ht.1.1, ht.1.2, ht.2, hr]
      rfl
    · have hr : r1 = [] := if_neg hf
      rw [if_neg hf, hr, List.append_nil]
      rcases b1 with b1 | b1
      · exact absurd b1 hf
      · have hnm : n.name = ⟨#[]⟩ := WideShapes.bytes_inj (by have := b1.1; simpa [ByteArray.toList_eq] using this)
        rw [hnm, b1.2]
  have e2 : s2 b = (⟨n.say, n.name, n.gen, n.i, [], [], []⟩, ⟨((n0 n ++ r1 ++ r2).length : Int), 0⟩) := by
    unfold s2
    rw [hso, e1]
    by_cases hf : hasI n.say = true
    · have hr : r2 = numB n.i.toNat := if_pos hf
      have hi : ((n.i.toNat : Nat) : Int) = n.i := by have := h.i0; omega
      have ht := num_put (b := b) (u := n0 n ++ r1) (n := n.i.toNat) (r := r3 ++ (r4 ++ (r5 ++ (r6 ++ r7)))) (by rw [hbb, hr]; simp only [List.append_assoc]) (by have := h.i1; omega)
      rw [if_pos hf]
      unfold iS
      simp only
      rw [ht]
      simp only
      rw [hi, hr]
    · have hr : r2 = [] := if_neg hf
      rw [if_neg hf, hr, List.append_nil]
      rcases b2 with b2 | b2
      · exact absurd b2 hf
      · rw [b2]
  have e3 : s3 b = (⟨n.say, n.name, n.gen, n.i, n.held, [], []⟩, ⟨((n0 n ++ r1 ++ r2 ++ r3 ++ r4).length : Int), 0⟩) := by
    unfold s3
    rw [hso, e2]
    by_cases hf : hasH n.say = true
    · have hr : r3 = numB n.held.length := if_pos hf
      have ht : manyR b ⟨((n0 n ++ r1 ++ r2).length : Int), 0⟩ 64 = _ := many_put (b := b) (u := n0 n ++ r1 ++ r2) (n := n.held.length) (most := 64) (r := r4 ++ (r5 ++ (r6 ++ r7))) (by rw [hbb, hr]; simp only [List.append_assoc]) h.h (by omega)
      have hl := loop_put (b := b) (f := heldS b) (g := heldB) (add := fun t x => { t with held := t.held ++ [x] }) (ok := fun x => fileOk x.name x.gen) (fun u r x t ho hb => held_put hb ho) n.held (n0 n ++ r1 ++ r2 ++ numB n.held.length) (r5 ++ (r6 ++ r7)) ⟨n.say, n.name, n.gen, n.i, [], [], []⟩ h.hs (by rw [hbb, hr]; simp only [List.append_assoc, r4])
      rw [if_pos hf]
      unfold listS
      simp only
      rw [ht]
      simp only [Int.toNat_natCast]
      rw [hl, foldH, hr]
      simp [r4]
    · have hr : r3 = [] := if_neg hf
      rcases b3 with b3 | b3
      · exact absurd b3 hf
      · have hr4 : r4 = [] := by simp [r4, b3]
        rw [if_neg hf, hr, hr4, List.append_nil, List.append_nil, b3]
  have e4 : s4 b = (⟨n.say, n.name, n.gen, n.i, n.held, n.parts, []⟩, ⟨((n0 n ++ r1 ++ r2 ++ r3 ++ r4 ++ r5 ++ r6).length : Int), 0⟩) := by
    unfold s4
    rw [hso, e3]
    by_cases hf : hasP n.say = true
    · have hr : r5 = numB n.parts.length := if_pos hf
      have ht : manyR b ⟨((n0 n ++ r1 ++ r2 ++ r3 ++ r4).length : Int), 0⟩ 256 = _ := many_put (b := b) (u := n0 n ++ r1 ++ r2 ++ r3 ++ r4) (n := n.parts.length) (most := 256) (r := r6 ++ r7) (by rw [hbb, hr]; simp only [List.append_assoc]) h.p (by omega)
      have hl := loop_put (b := b) (f := partS b) (g := partB) (add := fun t x => { t with parts := t.parts ++ [x] }) (ok := fun x => x.s.length = 32 ∧ 1 ≤ x.len ∧ x.len ≤ 512) (fun u r x t ho hb => part_put hb ho.1 ho.2) n.parts (n0 n ++ r1 ++ r2 ++ r3 ++ r4 ++ numB n.parts.length) r7 ⟨n.say, n.name, n.gen, n.i, n.held, [], []⟩ (fun x hx => ⟨hp x hx, h.ps x hx⟩) (by rw [hbb, hr]; simp only [List.append_assoc, r6])
      rw [if_pos hf]
      unfold listS
      simp only
      rw [ht]
      simp only [Int.toNat_natCast]
      rw [hl, foldP, hr]
      simp [r6]
    · have hr : r5 = [] := if_neg hf
      rcases b4 with b4 | b4
      · exact absurd b4 hf
      · have hr6 : r6 = [] := by simp [r6, b4]
        rw [if_neg hf, hr, hr6, List.append_nil, List.append_nil, b4]
  have e5 : s5 b = (n, ⟨(b.length : Int), 0⟩) := by
    unfold s5
    rw [hso, e4]
    by_cases hf : hasB n.say = true
    · have hr : r7 = textB n.bytes := if_pos hf
      have ht : textR b ⟨((n0 n ++ r1 ++ r2 ++ r3 ++ r4 ++ r5 ++ r6).length : Int), 0⟩ 512 = _ := text_put (b := b) (u := n0 n ++ r1 ++ r2 ++ r3 ++ r4 ++ r5 ++ r6) (s := n.bytes) (most := 512) (r := []) (by rw [hbb, hr]; simp only [List.append_assoc, List.append_nil]) h.b (by omega)
      rw [if_pos hf]
      unfold bytesS
      simp only
      rw [ht]
      simp only
      rw [show n0 n ++ r1 ++ r2 ++ r3 ++ r4 ++ r5 ++ r6 ++ textB n.bytes = b from by rw [hbb, hr]; simp only [List.append_assoc]]
    · have hr : r7 = [] := if_neg hf
      rcases b5 with b5 | b5
      · exact absurd b5 hf
      · rw [if_neg hf, show n0 n ++ r1 ++ r2 ++ r3 ++ r4 ++ r5 ++ r6 = b from by rw [hbb, hr]; simp only [List.append_assoc, List.append_nil], ← b5]
  have := last_ok (b := b) (p := (b.length : Int)) (by rw [e5]) (by rw [e5]; exact hc) rfl
  rw [this, e5]
end Go.Proofs.Ytbncmffifbcbjaa.WiBk
