/- A machine that runs a program's code on written inputs by computation alone, part 17: a run in a part of the kept heap is a run in the whole. No condition. -/
import Derived.Test.YtcnclcfglfgjlaaGreatDoorCxCall
namespace Go.Proofs.YtcnclcfglfgjlaaGreatDoor.Cx
open Go

/-- a heap that a run in a part of it has changed at the names of N -/
def patch (N : List Nat) (h g : Hp) : Hp := fun b => if b ∈ N then h b else g b
theorem Tx.lift {E E' : Em} {h g h' : Hp} {w w' : World} {n n' : Nat} {l N : List Nat} (A : Tx E h w n E' h' w' n' l) (H : HR E g w) (sub : ∀ b o, h b = some o → g b = some o) (F : Fresh E n n')
    (hN : ∀ b, b ∈ N ↔ (n ≤ b ∧ b < n') ∨ b ∈ l) : Tx E g w n E' (patch N h' g) w' n' l := by
  have gfresh : ∀ b o, g b = some o → ¬ (n ≤ b ∧ b < n') := by
    intro b o hb hx
    obtain ⟨e, he, _⟩ := H.here b o hb
    rw [F b hx.1 hx.2] at he
    cases he
  have nomem : ∀ b, b ∉ N → (b < n ∨ n' ≤ b) ∧ b ∉ l := by
    intro b hb
    rw [hN] at hb
    simp only [not_or] at hb
    refine ⟨?_, hb.2⟩
    rcases Nat.lt_or_ge b n with h1 | h1
    · exact .inl h1
    · rcases Nat.lt_or_ge b n' with h2 | h2
      · exact absurd ⟨h1, h2⟩ hb.1
      · exact .inr h2
  -- an object of the changed heap is the run's, or an old one elsewhere
  have split : ∀ b o, patch N h' g b = some o → h' b = some o ∨ (h b = none ∧ g b = some o ∧ b ∉ N) := by
    intro b o hb
    unfold patch at hb
    split at hb
    · exact .inl hb
    · rename_i hbn
      cases hh : h b with
      | none => exact .inr ⟨rfl, hb, hbn⟩
      | some o' =>
        left
        obtain ⟨h1, h2⟩ := nomem b hbn
        rw [A.keep b h1 h2, hh]
        have := sub b o' hh
        rw [this] at hb
        exact hb
  have apart : ∀ b o e, h b = none → g b = some o → E b = some e → ∀ b' o' e', h b' = some o' → E b' = some e' → e'.blk ≠ e.blk := by
    intro b o e h1 h2 h3 b' o' e' h4 h5 hx
    have := H.inj b' b o' o e' e (sub _ _ h4) h2 h5 h3 hx
    subst this
    rw [h1] at h4
    cases h4
  have Eold : ∀ b o e, g b = some o → E' b = some e → E b = some e := by
    intro b o e h1 h2
    rcases A.dom b e h2 with h3 | h3
    · exact h3
    · exact absurd h3 (gfresh b o h1)
  have cross : ∀ b c o o' e e', h' b = some o → h c = none → g c = some o' → E' b = some e → E' c = some e' → e.blk = e'.blk → b = c := by
    intro b c o o' e e' hb hc1 hc2 he he' hx
    have hec := Eold c o' e' hc2 he'
    by_cases hnew : n ≤ b ∧ b < n'
    · rcases A.news b o e hnew.1 hnew.2 hb he with h1 | ⟨d, od, ed, h1, h2, h3⟩
      · have := H.lt hc2 hec
        omega
      · exact absurd (h3.trans hx) (apart c o' e' hc1 hc2 hec d od ed h1 h2)
    · rcases A.domle b o hb with ⟨o1, h1⟩ | h1
      · rcases A.dom b e he with h2 | h2
        · exact absurd hx (apart c o' e' hc1 hc2 hec b o1 e h1 h2)
        · exact absurd h2 hnew
      · exact absurd h1 hnew
  refine ⟨A.le, A.ext, A.dom, ⟨?_, ?_⟩, ?_, ?_, ?_, ?_, A.size, A.os, A.tape, A.output⟩
  · intro b o hb
    rcases split b o hb with h1 | ⟨h1, h2, h3⟩
    · exact A.hr.here b o h1
    · obtain ⟨e, he, ho⟩ := H.here b o h2
      refine ⟨e, A.ext _ _ he, ?_⟩
      rw [A.frame e.blk (H.lt h2 he) fun b' o' e' h4 h5 => apart b o e h1 h2 he b' o' e' h4 h5]
      exact ho.ext A.ext
  · intro b c o o' e e' hb hc he he' hx
    rcases split b o hb with h1 | ⟨h1, h2, h3⟩ <;> rcases split c o' hc with k1 | ⟨k1, k2, k3⟩
    · exact A.hr.inj b c o o' e e' h1 k1 he he' hx
    · exact cross b c o o' e e' h1 k1 k2 he he' hx
    · exact (cross c b o' o e' e k1 h1 h2 he' he hx.symm).symm
    · exact H.inj b c o o' e e' h2 k2 (Eold b o e h2 he) (Eold c o' e' k2 he') hx
  · intro b hb hl
    unfold patch
    rw [if_neg]
    rw [hN]
    simp only [not_or]
    exact ⟨by omega, hl⟩
  · intro b o hb
    rcases split b o hb with h1 | ⟨h1, h2, h3⟩
    · rcases A.domle b o h1 with ⟨o', h2⟩ | h2
      · exact .inl ⟨o', sub _ _ h2⟩
      · exact .inr h2
    · exact .inl ⟨o, h2⟩
  · intro b o e hb1 hb2 hb he
    rcases split b o hb with h1 | ⟨h1, h2, h3⟩
    · rcases A.news b o e hb1 hb2 h1 he with h2 | ⟨c, o', e', h2, h3, h4⟩
      · exact .inl h2
      · exact .inr ⟨c, o', e', sub _ _ h2, h3, h4⟩
    · exact absurd ⟨hb1, hb2⟩ (gfresh b o h2)
  · intro k hk hkk
    exact A.frame k hk fun b o e hb he => hkk b o e (sub _ _ hb) he

/-- a run within the names of another -/
theorem Tx.within {E E1 E2 : Em} {h h1 h2 : Hp} {w w1 w2 : World} {n n1 m m1 : Nat} {l l1 : List Nat}
    (A : Tx E h w n E1 h1 w1 n1 l) (B : Tx E1 h1 w1 m E2 h2 w2 m1 l1) (hm : n ≤ m) (hm1 : m1 ≤ n1) : Tx E h w n E2 h2 w2 n1 (l1 ++ l) := by
  refine ⟨A.le, A.ext.trans B.ext, ?_, B.hr, ?_, ?_, ?_, ?_, Nat.le_trans A.size B.size, B.os.trans A.os, B.tape.trans A.tape, B.output.trans A.output⟩
  · intro b e hb
    rcases B.dom b e hb with hb | hb
    · exact A.dom b e hb
    · exact .inr (by omega)
  · intro b hb hl
    simp only [List.mem_append, not_or] at hl
    rw [B.keep b (by omega) hl.1, A.keep b hb hl.2]
  · intro b o hb
    rcases B.domle b o hb with ⟨o', hb⟩ | hb
    · exact A.domle b o' hb
    · exact .inr (by omega)
  · intro b o e hb0 hb1 hb he
    have old : ∀ c o' e', h1 c = some o' → E1 c = some e' → w.heap.size ≤ e'.blk ∨ ∃ c o'' e'', h c = some o'' ∧ E c = some e'' ∧ e''.blk = e'.blk := by
      intro c o' e' hc hec
      by_cases hcn : n ≤ c ∧ c < n1
      · exact A.news c o' e' hcn.1 hcn.2 hc hec
      · rcases A.domle c o' hc with ⟨o'', hc'⟩ | hx
        · rcases A.dom c e' hec with hec' | hx
          · exact .inr ⟨c, o'', e', hc', hec', rfl⟩
          · exact absurd hx hcn
        · exact absurd hx hcn
    by_cases hnew : m ≤ b ∧ b < m1
    · rcases B.news b o e hnew.1 hnew.2 hb he with hx | ⟨c, o', e', hc, hec, hblk⟩
      · exact .inl (Nat.le_trans A.size hx)
      · rw [← hblk]
        exact old c o' e' hc hec
    · rcases B.domle b o hb with ⟨o', ho'⟩ | hx
      · rcases B.dom b e he with he1 | hx
        · exact old b o' e ho' he1
        · exact absurd hx hnew
      · exact absurd hx hnew
  · intro k hk hkk
    rw [B.frame k (Nat.lt_of_lt_of_le hk A.size) ?_, A.frame k hk hkk]
    intro b o e hb he hblk
    by_cases hbn : n ≤ b ∧ b < n1
    · rcases A.news b o e hbn.1 hbn.2 hb he with hx | ⟨c, o', e', h1', h2', h3'⟩
      · omega
      · exact hkk c o' e' h1' h2' (h3'.trans hblk)
    · rcases A.domle b o hb with ⟨o', hb'⟩ | hx
      · rcases A.dom b e he with he' | hx
        · exact hkk b o' e hb' he' hblk
        · exact hbn hx
      · exact hbn hx
theorem Tx.wide {E : Em} {h : Hp} {w : World} {n n' : Nat} (H : HR E h w) (hn : n ≤ n') : Tx E h w n E h w n' [] :=
  ⟨hn, .refl E, fun _ _ h => .inl h, H, fun _ _ _ => rfl, fun _ o h => .inl ⟨o, h⟩, fun b o e _ _ h1 h2 => .inr ⟨b, o, e, h1, h2, rfl⟩, fun _ _ _ => rfl, Nat.le_refl _, rfl, rfl, rfl⟩
end Go.Proofs.YtcnclcfglfgjlaaGreatDoor.Cx
