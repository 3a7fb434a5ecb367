/- (*graph).number and tsort.read: the elements numbered in the order in which they are named, and the constraints between their numbers; for fewer than 2^30 elements. -/
import Derived.Test.YtlnbkljajocfoaaTPairs
import Derived.Maps.Own
import Derived.Maps.OwnOps
import Derived.Maps.OwnSet
import Derived.OwnWalk
namespace Go.Proofs.Ytlnbkljajocfoaa.TGraph
open Go Go.RowKit Go.Maps Go.WideMaps Strs TWords TPairs

theorem row_cell {w : World} {g : Nat} {cs : Array Value} {t : TypeId} (h : w.heap[g]? = some (.cells cs t (0, 0))) (j : Nat) : w.cell? ⟨g, j, none⟩ = cs[j]? := cell_of_row w g j cs t (0, 0) h
theorem row_free {w : World} {g : Nat} {cs : Array Value} {t : TypeId} (h : w.heap[g]? = some (.cells cs t (0, 0))) (j : Nat) : w.frozen? ⟨g, j, none⟩ = false := by simp [World.frozen?, h]
theorem set_cell {w : World} {g i : Nat} {cs : Array Value} {t : TypeId} (h : w.heap[g]? = some (.cells cs t (0, 0))) (u : Value) : (w.setCell ⟨g, i, none⟩ u).heap[g]? = some (.cells (cs.setIfInBounds i u) t (0, 0)) := by
  simp [World.setCell, Array.getElem?_modify, h]

theorem law : Keyed Try.prog 9 := string_keyed Try.underlying9
theorem zeroE (w : World) : (zeroValue 3).run Try.prog w = .ok (.int .i64 0) w := by kernel_rfl
/-- a list with another element, unless it is there -/
def addNew (ls : List Str) (x : Str) : List Str := if x ∈ ls then ls else ls ++ [x]
theorem addNew_nodup {ls : List Str} (h : ls.Nodup) (x : Str) : (addNew ls x).Nodup := by
  unfold addNew
  split
  · exact h
  · rename_i hx
    rw [List.nodup_append]
    refine ⟨h, by simp, ?_⟩
    intro a ha b hb e
    simp at hb
    subst hb
    exact hx (e ▸ ha)
theorem mem_addNew (ls : List Str) (x : Str) : x ∈ addNew ls x := by
  unfold addNew; split
  · assumption
  · simp
theorem addNew_length (ls : List Str) (x : Str) : (addNew ls x).length ≤ ls.length + 1 := by
  unfold addNew; split <;> simp
/-- what the map says of every string -/
def Numb (D : DataW Unit) (ls : List Str) : Prop :=
  IsMap D ∧ ∀ x : Str, Maps.has D (.string x) = decide (x ∈ ls) ∧ (x ∈ ls → D.atKey (.string x) (.lit (.int .i64 0)) = .lit (.int .i64 (ls.idxOf x : Nat)))
theorem Numb.nil : Numb (.map []) [] := ⟨isMap_empty, fun x => ⟨rfl, fun h => by cases h⟩⟩
theorem Numb.add {D : DataW Unit} {ls : List Str} (h : Numb D ls) (x : Str) (hx : x ∉ ls) (hk : WideAt.IsKeyLit (.string x)) : Numb (D.put (.string x) (.lit (.int .i64 (ls.length : Nat)))) (ls ++ [x]) := by
  refine ⟨h.1.put _ _, fun y => ?_⟩
  by_cases e : y = x
  · subst e
    refine ⟨?_, fun _ => ?_⟩
    · rw [has_put_same h.1 hk]; simp
    · rw [atKey_put_same h.1 hk, List.idxOf_append, if_neg hx]; simp
  · have hne : (Lit.string y) ≠ .string x := by intro h; injection h with h; exact e h
    refine ⟨?_, fun hy => ?_⟩
    · rw [has_put_other hne, (h.2 y).1]; simp [e]
    · have hy' : y ∈ ls := by simpa [e] using hy
      rw [atKey_put_other hne, (h.2 y).2 hy', List.idxOf_append, if_pos hy']
/-- the graph: block g holds it, block m its map, names its slice of names -/
structure Gr (g m base : Nat) (ls : List Str) (v : Value) (w : World) : Prop where
  cells : w.heap[g]? = some (.cells #[v, .map (some m)] 48 (0, 0))
  names : w.ownsRow base 9 1 v ls.length (cellsOf ls)
  map : ∃ D, w.ownsMap Try.prog 9 (plainElem Try.prog 3) m ls.length D ∧ Numb D ls
  nodup : ls.Nodup
  lt : m < g ∧ g < base
  room : base ≤ w.heap.size
/-- what a call has turned: the graph's two blocks, its names' row, and new blocks -/
structure Turned (g m : Nat) (v v' : Value) (w w' : World) : Prop where
  below : Below m w w'
  block : ∀ k, k < w.heap.size → k ≠ g → k ≠ m → v.ownBlock ≠ some k → w'.heap[k]? = w.heap[k]?
  where_ : v'.ownBlock = v.ownBlock ∨ ∃ b, v'.ownBlock = some b ∧ w.heap.size ≤ b

set_option maxHeartbeats 2000000 in
set_option maxRecDepth 100000 in
theorem number_any (g m base : Nat) (ls : List Str) (v : Value) (x : Str) (w : World) (h : Gr g m base ls v w) (hx : x.length ≤ 1099511627776) (hl : ls.length ≤ 1073741824) :
    Calls Try.prog 36 #[.pointer (some ⟨g, 0, none⟩), .string ⟨x.toArray⟩] w
      fun e w' => e = .returned (.int .i64 ((addNew ls x).idxOf x : Nat)) ∧ ∃ v', Gr g m base (addNew ls x) v' w' ∧ Turned g m v v' w w' := by
  obtain ⟨hc, hown, ⟨D, hmap, hnum⟩, hnd, ⟨hmg, hgb⟩, hroom⟩ := h
  obtain ⟨i0, hi, hz0, hz1, hz2⟩ := info_parts str_info
  have c0 : w.cell? ⟨g, 0, none⟩ = some v := row_cell hc 0
  have c1 : w.cell? ⟨g, 1, none⟩ = some (.map (some m)) := row_cell hc 1
  have f0 : w.frozen? ⟨g, 0, none⟩ = false := row_free hc 0
  have lg := lt_of_block hc
  have lm := hmap.lt
  have hblk := ownsRow_block hown
  have ag : v.ownBlock ≠ some g := fun e => by have := (hblk _ e).1; omega
  have am : v.ownBlock ≠ some m := fun e => by have := (hblk _ e).1; omega
  have hkey : keyOf Try.prog 9 (.string ⟨x.toArray⟩) = some (.string x) := by
    simpa using keyOf_string_mk (P := Try.prog) Try.underlying9 (s := ⟨x.toArray⟩) (by simp [ByteArray.size]; unfold maxLen; omega)
  have hhas := (hnum.2 x).1
  by_cases hin : x ∈ ls
  · have hat0 := (hnum.2 x).2 hin
    have ha : addNew ls x = ls := by unfold addNew; rw [if_pos hin]
    rw [ha]
    have hh : Maps.has D (.string x) = true := by rw [hhas]; simp [hin]
    go_enter Try.func36, Try.ntmps36
    go_wp2_with (at_lookup
                 refine wpList_lookup_own_ok_int _ rfl _ _ 46 rfl 9 3 .i64 law Try.underlying46 Try.underlying3 (zeroE _) m ls.length D rfl hmap _ _ rfl hkey ?_
                 intro c hat hwc
                 rw [hat0] at hat
                 have hce : (ls.idxOf x : Int) = c := by injection hat with hat; injection hat
                 subst hce
                 rw [hh])
    go_ret
    exact ⟨rfl, v, ⟨hc, hown, ⟨D, hmap, hnum⟩, hnd, ⟨hmg, hgb⟩, hroom⟩, ⟨Below.refl _ _, fun _ _ _ _ _ => rfl, .inl rfl⟩⟩
  · have ha : addNew ls x = ls ++ [x] := by unfold addNew; rw [if_neg hin]
    have hidx : ((addNew ls x).idxOf x : Nat) = ls.length := by rw [ha, List.idxOf_append, if_neg hin]; simp
    rw [hidx, ha]
    have hh : Maps.has D (.string x) = false := by rw [hhas]; simp [hin]
    have hk : WideAt.IsKeyLit (.string x) := by trivial
    have hnum1 := Lib.hid (hnum.add x hin hk)
    have hnd1 := Lib.hid (ha ▸ addNew_nodup hnd x)
    obtain ⟨a, cp, hva, hcap⟩ : ∃ a cp, v = .slice a ls.length cp ∧ cp ≤ maxLen := by
      rcases hown.2 with ⟨rfl, h0⟩ | ⟨g', cap, cur, rfl, _, _, _, hcm, _⟩
      · exact ⟨none, 0, by rw [h0], Nat.zero_le _⟩
      · exact ⟨_, cap, rfl, hcm⟩
    have hva' := hva
    subst hva
    clear hidx ha hhas
    go_enter Try.func36, Try.ntmps36
    go_wp2_with (first
      | (at_lookup
         refine wpList_lookup_own_ok_int _ rfl _ _ 46 rfl 9 3 .i64 law Try.underlying46 Try.underlying3 (zeroE _) m ls.length D rfl hmap _ _ rfl hkey ?_
         intro c hat hwc
         rw [hh])
      | (at_mapUpdate
         refine wpList_mapUpdate_own _ rfl _ _ _ 46 rfl 9 3 law Try.underlying46 _ m ls.length _ rfl hmap (by unfold maxLen; omega) _ _ _ rfl rfl hkey _ [] (plainElem_int Try.underlying3 (WalkArith.wf_i64 (by omega))) ?_
         intro w1 hmap1 hg1
         have hc1 : w1.heap[g]? = some (.cells #[.slice a ls.length cp, .map (some m)] 48 (0, 0)) := (hg1.block g lg (fun e => by have := Option.some.inj e; omega)).trans hc
         have hown1 : w1.ownsRow base 9 1 (.slice a ls.length cp) ls.length (cellsOf ls) := ownsRow_keep hown fun k hk => hg1.block k (hblk k hk).2 (fun e => by have := Option.some.inj e; have := (hblk k hk).1; omega)
         have k0 : w1.cell? ⟨g, 0, none⟩ = some (.slice a ls.length cp) := row_cell hc1 0
         have hs1 := hg1.size
         have lg1 := lt_of_block hc1)
      | (at_builtin
         refine wpList_append_lies _ rfl _ _ _ rfl base 9 i0 _ 1 16 Try.underlying30 hi hz0 hz1 hz2 rfl (by omega) _ ls.length (cellsOf ls) rfl (hown1.alloc _) ⟨w1.heap.size, 0, none⟩ 1 1 [.string ⟨x.toArray⟩] rfl rfl (World.news_of_block (cs := #[.string ⟨x.toArray⟩]) (t := 9) (fr := (0, 0)) (heap_alloc_new w1 _)) (by simp [Value.oneCell']) (by omega) (by unfold maxLen; omega) (by omega) (by simp; omega) (w1.heap.size + 1) (by simp) ?_
         intro gg cap w2 hown2 hgrow hat hlt2
         have hc2 : w2.heap[g]? = some (.cells #[.slice a ls.length cp, .map (some m)] 48 (0, 0)) := (hgrow.block g (by simp; omega) (Ne.symm ag)).trans ((Below.heap_alloc w1 _ g lg1).trans hc1)
         have q0 : w2.cell? ⟨g, 0, none⟩ = some (.slice a ls.length cp) := row_cell hc2 0
         have qf : w2.frozen? ⟨g, 0, none⟩ = false := row_free hc2 0))
    go_ret
    have hl1 : cellsOf ls ++ [Value.string ⟨x.toArray⟩] = cellsOf (ls ++ [x]) := by simp [cellsOf]
    rw [hl1] at hown2
    have hbl2 := ownsRow_block hown2
    have e1 : (ls ++ [x]).length = ls.length + 1 := by simp
    have hmap2 := (hmap1.alloc (.cells #[.string ⟨x.toArray⟩] 9)).kept hgrow (fun e => am e.symm)
    refine ⟨rfl, .slice (some ⟨gg, 0, none⟩) (ls.length + 1) cap, ⟨set_cell hc2 _, ?_, ?_, hnd1.out, ⟨hmg, hgb⟩, ?_⟩, ⟨?_, ?_, ?_⟩⟩
    · rw [e1]
      exact ownsRow_keep hown2 fun j hj => Below.heap_setCell _ _ _ _ (by have := (hbl2 j hj).1; show j ≠ g; omega)
    · refine ⟨D.put (.string x) (.lit (.int .i64 (ls.length : Nat))), ?_, hnum1.out⟩
      rw [e1]
      exact hmap2.setCell (by show m ≠ g; omega) _
    · have := hgrow.size
      simp at this
      simp
      omega
    · refine Below.setCell (Below.grown (Below.alloc (Below.grown (Below.refl m w) hg1 (by omega) (fun k hk => by have := Option.some.inj hk; omega)) (by omega) _) hgrow (by simp; omega) (fun k hk => by have := (hblk k hk).1; omega)) (by show m ≤ g; omega) _
    · intro k hk h1 h2 h3
      rw [Below.heap_setCell _ _ _ _ (by show k ≠ g; exact h1), hgrow.block k (by simp; omega) (Ne.symm h3), Below.heap_alloc w1 _ k (by omega), hg1.block k hk (fun e => h2 (Option.some.inj e))]
    · rcases hat with h | h
      · exact .inl h.symm
      · exact .inr ⟨gg, rfl, by omega⟩
end Go.Proofs.Ytlnbkljajocfoaa.TGraph
