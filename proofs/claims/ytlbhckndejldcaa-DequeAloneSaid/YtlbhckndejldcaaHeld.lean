/- What a deque holds, as a new list. -/
import Derived.Test.YtlbhckndejldcaaDEnds
import Derived.Test.YtlbhckndejldcaaAll
import Derived.Test.YtlbhckndejldcaaSlice
import Derived.OwnWalk
import Derived.WalkKit
namespace Go.Proofs.Ytlbhckndejldcaa
open Go.RowKit
attribute [local go_sem ↓] Go.wp_at_zero Go.wp_at_succ
set_option linter.unusedVariables false
/-- the first n numbers that a deque holds -/
def heldD (l : Lay) (k : Int) (m : List Int) (n : Nat) : List Int := (List.range n).map fun i : Nat => ld m (l.slot k (ld m (l.top k) + i))
def heldN (l : Lay) (k : Int) (m : List Int) : Nat := min (ld m (bot l k) - ld m (l.top k)).toNat l.room.toNat
theorem heldD_length (l : Lay) (k : Int) (m : List Int) (n : Nat) : (heldD l k m n).length = n := by simp [heldD]
theorem heldD_succ (l : Lay) (k : Int) (m : List Int) (n : Nat) : heldD l k m (n + 1) = heldD l k m n ++ [ld m (l.slot k (ld m (l.top k) + n))] := by simp [heldD, List.range_succ]
/-- a list of numbers in memory of the call's own -/
def HeldPost (xs : List Int) (w : World) (e : Ending) (w' : World) : Prop :=
  ∃ v, e = .returned v ∧ Kept [] w w' ∧ SliceIs w' v xs ∧ (∀ g, v.ownBlock = some g → w.heap.size ≤ g)
theorem Kept.ofGrown2 {L : List Nat} {a w w' : World} {r : Option Nat} (h : Kept L a w) (hg : w.grownBy w' r) (hr : ∀ k, r = some k → a.heap.size ≤ k) : Kept L a w' :=
  h.drop (Kept.grown hg) (fun x hx => .inr (hr x (by cases r <;> simp_all)))
theorem ownsRow_keep {L : List Nat} {w w' : World} {base size n : Nat} {e : TypeId} {v : Value} {xs : List Value} (h : w.ownsRow base e size v n xs) (k : Kept L w w') (hn : ∀ g, v.ownBlock = some g → g ∉ L) : w'.ownsRow base e size v n xs := by
  refine ⟨h.1, ?_⟩
  rcases h.2 with h | ⟨g, cap, cur, rfl, hb, hg, h1, h2, h3, h4⟩
  · exact .inl h
  · exact .inr ⟨g, cap, cur, rfl, hb, k.get hg (hn g rfl), h1, h2, h3, h4⟩
set_option maxHeartbeats 2000000 in
set_option maxRecDepth 100000 in
theorem d53 (l : Lay) (k : Int) (B D : Nat) (m : List Int) (w : World) (hf : Fit l k) (hb : BankAt w B D m) (h0 : 0 ≤ ld m (l.top k)) (h1 : ld m (l.top k) ≤ 1000000) :
    Calls Try.prog 15 #[l.val, .int .i64 k, .pointer (some ⟨B, 0, none⟩)] w (HeldPost (heldD l k m (heldN l k m)) w) := by
  obtain ⟨i0, hi, hz0, hz1, hz2⟩ := info_parts info2
  have HB := hid hb
  have HF := hid hf
  have hr1 : l.room ≤ 4096 := hf.r.bd.2
  have hr0 : 1 ≤ l.room := hf.r.bd.1
  obtain ⟨tv, htv⟩ : ∃ tv, ld m (l.top k) = tv := ⟨_, rfl⟩
  obtain ⟨bv, hbv⟩ : ∃ bv, ld m (bot l k) = bv := ⟨_, rfl⟩
  have HT := hid htv
  have HBV := hid hbv
  rw [htv] at h0 h1
  have HN : Hid (heldN l k m = min (bv - tv).toNat l.room.toNat) := hid (by rw [heldN, htv, hbv])
  obtain ⟨N, hN⟩ : ∃ N, heldN l k m = N := ⟨_, rfl⟩
  rw [HN.out] at hN
  have HN2 := hid hN
  rw [show heldN l k m = N from HN.out.trans hN]
  clear hb hf htv hbv hN
  go_enter Try.func15, Try.ntmps15
  go_wp2_with fail
  refine (c33 l k _ HF.out).mono ?_
  rintro e w1 ⟨rfl, hk1⟩
  have HK1 := hid (((Kept.refl [] w).alloc (.cells l.cells 31)).trans hk1)
  have HP1 := hid (hk1.get (new_alloc w (.cells l.cells 31)) (by simp))
  have HS1 : Hid (w.heap.size + 1 ≤ w1.heap.size) := hid (by have := hk1.size; simp at this; omega)
  clear hk1
  go_wp2_with fail
  refine (c42 B D m (l.top k) _ (HB.out.keep HK1.out (by simp) (by simp))).mono ?_
  rw [HT.out]
  rintro e w2 ⟨rfl, rfl⟩
  go_wp2_with fail
  go_loopw [7, 8] (fun v s wr => ∃ j : Nat, s = .int .i64 (tv + j) ∧ j ≤ N ∧ wr.ownsRow w1.heap.size 2 1 v j ((heldD l k m j).map (Value.int .i64)) ∧ Kept [] w1 wr) (fun _ s _ => N - (intOf s - tv).toNat)
  case atStart => exact ⟨0, by simp, by omega, World.ownsRow_nil _ _ _ _, Kept.refl _ _⟩
  case round =>
    obtain ⟨j, rfl, hj, hown, hkk⟩ := hrel
    obtain ⟨a, c, hvs⟩ := (SliceIs.of_owned (xs := heldD l k m j) (by rw [heldD_length]; exact hown)).len
    rw [heldD_length] at hvs
    subst hvs
    have HO := hid hown
    have HK := hid hkk
    have HJ := hid hj
    clear hkk hown hj
    obtain ⟨s, hs⟩ : ∃ s : Int, tv + (j : Int) = s := ⟨_, rfl⟩
    rw [hs]
    have HSJ := hid hs
    have hjr : (j : Int) ≤ l.room := by have := HN2.out; have := HJ.out; omega
    have hs0 : 0 ≤ s := by omega
    have hs1 : s ≤ 1004096 := by omega
    clear hs
    have hcl := cells_of (HK.out.get HP1.out (by simp))
    go_wp2_with fail
    refine (c35 l k _ HF.out).mono ?_
    rintro e w2 ⟨rfl, hk2⟩
    have HK2 := hid (HK.out.trans hk2)
    have HO2 : Hid (w2.ownsRow w1.heap.size 2 1 (.slice a j c) j ((heldD l k m j).map (Value.int .i64))) := hid (ownsRow_keep HO.out hk2 (fun g _ => by simp))
    clear hk2 HO hcl
    have hcl := cells_of (HK2.out.get HP1.out (by simp))
    go_wp2_with fail
    refine (c42 B D m (l.top k + 1) _ (HB.out.keep (HK1.out.trans HK2.out) (by simp) (by simp))).mono ?_
    rw [show ld m (l.top k + 1) = bv from HBV.out]
    rintro e w3 ⟨rfl, rfl⟩
    have HJN : Hid (j < N ↔ s < bv ∧ (j : Int) < l.room) := hid (by have := HN2.out; have := HSJ.out; omega)
    by_cases h2 : s < bv
    · by_cases h3 : (j : Int) < l.room
      · have HLT : Hid (j < N) := hid (HJN.out.2 ⟨h2, h3⟩)
        go_wp2_with fail
        refine (c37 l k s _ HF.out hs0 (by omega)).mono ?_
        rintro e w3 ⟨rfl, hk3⟩
        have HK3 := hid (HK2.out.trans hk3)
        have HO3 := hid (ownsRow_keep HO2.out hk3 (fun g _ => by simp))
        clear hk3 HO2 HK2 hcl
        go_wp2_with fail
        refine (c42 B D m (l.slot k s) _ (HB.out.keep (HK1.out.trans HK3.out) (by simp) (by simp))).mono ?_
        rintro e w4 ⟨rfl, rfl⟩
        go_wp2_with (at_builtin; refine wpList_append_own _ rfl (.tmp 30) (.tmp 37) 25 rfl w1.heap.size 2 i0 (.int .i64 0) 1 8 Try.underlying25 hi hz0 hz1 hz2 rfl (by decide) _ _ _ rfl (HO3.out.alloc _) ⟨w3.heap.size, 0, none⟩ 1 1 [.int .i64 (ld m (l.slot k s))] rfl rfl ?c1 ?c2 ?c3 ?c4 ?c5 ?_)
        case c1 =>
          intro j u hj
          match j, hj with
          | 0, hj => simp at hj; subst hj; simp [Addr.add]
        case c2 => intro u hu; simp at hu; subst hu; rfl
        case c3 => unfold maxLen; omega
        case c4 => omega
        case c5 => have := HK3.out.size; simp; omega
        intro v' w5 hown' hgrow _
        have HO' := hid hown'
        have HG := hid hgrow
        have HL := hid (HO3.out.lt)
        clear hown' hgrow HO3
        go_wp2_with fail
        go_roundw
        case rel =>
          refine ⟨j + 1, by have := HSJ.out; go_num, by have := HLT.out; omega, ?_, (HK3.out.alloc _).ofGrown2 HG.out (fun q hq => ?_)⟩
          · rw [heldD_succ, HT.out, HSJ.out]
            simpa using HO'.out
          · exact (HL.out q hq).1
        case measure => have := HLT.out; have := HSJ.out; simp [intOf]; omega
      · have HGE : Hid (j = N) := hid (by have := HJN.out; have := HJ.out; omega)
        go_wp2_with fail
        go_ret
        refine ⟨_, rfl, HK1.out.trans HK2.out, ?_, fun g hg => by have := (HO2.out.lt g hg).1; have := HS1.out; omega⟩
        rw [← HGE.out]
        exact SliceIs.of_owned (by rw [heldD_length]; exact HO2.out)
    · have HGE : Hid (j = N) := hid (by have := HJN.out; have := HJ.out; omega)
      go_wp2_with fail
      go_ret
      refine ⟨_, rfl, HK1.out.trans HK2.out, ?_, fun g hg => by have := (HO2.out.lt g hg).1; have := HS1.out; omega⟩
      rw [← HGE.out]
      exact SliceIs.of_owned (by rw [heldD_length]; exact HO2.out)
end Go.Proofs.Ytlbhckndejldcaa
