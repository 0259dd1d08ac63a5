/- A region that draws its order, whose first operations each give a value of a kind that later blocks leave as it is, and whose last operations come in one order: one proof an operation serves all orders. -/
import Derived.Test.YtlbhckndejldcaaBase
import Derived.Orders
import Derived.RegionTactic
namespace Go.Proofs.Ytlbhckndejldcaa
open Go.RowKit
def boolLists : Nat → List (List Bool)
  | 0 => [[]]
  | n + 1 => (boolLists n).flatMap (fun l => [false :: l, true :: l])
theorem mem_boolLists : ∀ l : List Bool, l ∈ boolLists l.length
  | [] => by simp [boolLists]
  | b :: l => by
    have := mem_boolLists l
    simp only [List.length_cons, boolLists, List.mem_flatMap]
    exact ⟨l, this, by cases b <;> simp⟩
/-- the frame: slot d of the list holds what v says at d's place in the list -/
def FrF (a : Act) : List Tmp → Nat → (Nat → Value) → Act
  | [], _, _ => a
  | d :: ds, i, v => (FrF a ds (i + 1) v).put (some d) (v i)
def upd (v : Nat → Value) (i : Nat) (x : Value) : Nat → Value := fun j => if j = i then x else v j
theorem upd_same (v : Nat → Value) (i : Nat) (x : Value) : upd v i x i = x := if_pos rfl
theorem upd_other (v : Nat → Value) {i j : Nat} (x : Value) (h : j ≠ i) : upd v i x j = v j := if_neg h
theorem put_comm (a : Act) {d e : Tmp} (h : d ≠ e) (x y : Value) : (a.put (some d) x).put (some e) y = (a.put (some e) y).put (some d) x := by
  simp only [Act.put]
  rw [Array.setIfInBounds_comm _ _ h]
theorem put_put (a : Act) (d : Tmp) (x y : Value) : (a.put (some d) x).put (some d) y = a.put (some d) y := by
  simp [Act.put]
theorem FrF_congr (a : Act) : ∀ (ds : List Tmp) (i : Nat) (v u : Nat → Value), (∀ j, i ≤ j → v j = u j) → FrF a ds i v = FrF a ds i u
  | [], _, _, _, _ => rfl
  | d :: ds, i, v, u, h => by
    simp only [FrF]
    rw [FrF_congr a ds (i + 1) v u (fun j hj => h j (by omega)), h i (Nat.le_refl _)]
theorem FrF_put (a : Act) : ∀ (ds : List Tmp) (i : Nat) (v : Nat → Value) (k : Nat) (d : Tmp) (x : Value), ds.Nodup → ds[k]? = some d → (FrF a ds i v).put (some d) x = FrF a ds i (upd v (i + k) x)
  | [], _, _, _, _, _, _, h => by simp at h
  | e :: ds, i, v, 0, d, x, hn, h => by
    simp at h; subst h
    simp only [FrF, put_put, Nat.add_zero, upd_same]
    rw [FrF_congr a ds (i + 1) v (upd v i x) (fun j hj => (upd_other v x (by omega)).symm)]
  | e :: ds, i, v, k + 1, d, x, hn, h => by
    have hd : ds[k]? = some d := by simpa using h
    have hne : e ≠ d := by
      intro he; subst he
      have := (List.nodup_cons.1 hn).1
      exact this (List.mem_of_getElem? hd)
    simp only [FrF]
    rw [put_comm _ hne, FrF_put a ds (i + 1) v k d x (List.nodup_cons.1 hn).2 hd, upd_other v x (show i ≠ i + (k + 1) by omega)]
    have e1 : i + 1 + k = i + (k + 1) := by omega
    rw [e1]
def closedB (deps : Nat → List Nat) (l : List Bool) : Bool := (List.range l.length).all fun i => l[i]? != some true || (deps i).all fun j => l[j]? == some true
theorem closedB_iff (deps : Nat → List Nat) (l : List Bool) : closedB deps l = true ↔ ∀ i, l[i]? = some true → ∀ j ∈ deps i, l[j]? = some true := by
  unfold closedB
  rw [List.all_eq_true]
  constructor
  · intro h i hi j hj
    have hl : i < l.length := (List.getElem?_eq_some_iff.1 hi).1
    have := h i (List.mem_range.2 hl)
    simp only [hi, bne_self_eq_false, Bool.false_or, List.all_eq_true, beq_iff_eq] at this
    exact this j hj
  · intro h i _
    by_cases hi : l[i]? = some true
    · simp only [hi, bne_self_eq_false, Bool.false_or, List.all_eq_true, beq_iff_eq]
      exact h i hi
    · simp [hi]
/-- the check of the edges: short of all of the first nA, one of them may come up, and what may come up is one of them whose own ahead are there -/
def edgesB (md : Region.Mode) (ops : Array Oper) (nA k : Nat) (deps : Nat → List Nat) : Bool :=
  (boolLists nA).all fun l => l == List.replicate nA true || !closedB deps l || (let r := Region.ready md ops (l ++ List.replicate k false).toArray; (!r.isEmpty) && r.all fun i => decide (i < nA) && l[i]? == some false && (deps i).all fun j => l[j]? == some true)
def cnt (l : List Bool) : Nat := (l.filter (fun b => !b)).length
theorem cnt_set : ∀ (l : List Bool) (i : Nat), l[i]? = some false → cnt l = cnt (l.set i true) + 1
  | [], _, h => by simp at h
  | b :: l, 0, h => by simp at h; subst h; simp [cnt]
  | b :: l, i + 1, h => by
    have := cnt_set l i (by simpa using h)
    simp only [cnt, List.set_cons_succ, List.filter_cons] at this ⊢
    split <;> simp_all
theorem cnt_zero : ∀ (l : List Bool), cnt l = 0 → l = List.replicate l.length true
  | [], _ => rfl
  | b :: l, h => by
    cases b
    · simp [cnt] at h
    · have := cnt_zero l (by simpa [cnt] using h)
      simp only [List.length_cons, List.replicate_succ]
      rw [← this]
theorem cnt_all (n : Nat) : cnt (List.replicate n true) = 0 := by simp [cnt]
theorem set_app (l : List Bool) (k i : Nat) (h : i < l.length) : ((l ++ List.replicate k false).toArray).setIfInBounds i true = (l.set i true ++ List.replicate k false).toArray := by
  simp [h]
section
variable {P : Program} {md : Region.Mode} {ops : Array Oper} {Q : Exit → Act → World → Prop} {a : Act} {w0 : World}
theorem wpAny_first (nA k : Nat) (deps : Nat → List Nat) (ds : List Tmp) (hds : ds.Nodup) (hlen : ds.length = nA) (hc : edgesB md ops nA k deps = true) (R : Nat → Value → World → Prop) (isA : Nat → Bool)
    (hR : ∀ i x w w', R i x w → Kept [] w w' → R i x w')
    (hstep : ∀ i d, ds[i]? = some d → ∀ v w, Kept [] w0 w → (∀ j ∈ deps i, R j (v j) w) → ∀ K : Act → World → Prop,
      (∀ x w', Kept [] w w' → R i x w' → (isA i = true → ∀ j y, isA j = true → R j y w → x ≠ y) → K ((FrF a ds 0 v).put (some d) x) w') → wpOp P ops Q i K (FrF a ds 0 v) w)
    (htail : ∀ v w, Kept [] w0 w → (∀ i, i < nA → R i (v i) w) → (∀ i j, i < nA → j < nA → isA i = true → isA j = true → i ≠ j → v i ≠ v j) → wpAny P md ops Q k (List.replicate nA true ++ List.replicate k false).toArray (FrF a ds 0 v) w) :
    ∀ (f : Nat) (l : List Bool) (v : Nat → Value) (w : World), l.length = nA → cnt l = f → Kept [] w0 w → (∀ i, l[i]? = some true → R i (v i) w) →
      (∀ i j, l[i]? = some true → l[j]? = some true → isA i = true → isA j = true → i ≠ j → v i ≠ v j) → closedB deps l = true → wpAny P md ops Q (f + k) (l ++ List.replicate k false).toArray (FrF a ds 0 v) w
  | 0, l, v, w, hl, hcnt, hk, hr, hd, _ => by
    have e := cnt_zero l hcnt
    rw [hl] at e
    subst e
    have e1 : 0 + k = k := by omega
    rw [e1]
    exact htail v w hk (fun i hi => hr i (by simp [hi])) (fun i j hi hj => hd i j (by simp [hi]) (by simp [hj]))
  | f + 1, l, v, w, hl, hcnt, hk, hr, hd, hcl => by
    have hne : l ≠ List.replicate nA true := fun e => by rw [e, cnt_all] at hcnt; omega
    have hm := List.all_eq_true.1 hc l (by rw [← hl]; exact mem_boolLists l)
    have hm2 : (!(Region.ready md ops (l ++ List.replicate k false).toArray).isEmpty) = true ∧ ∀ i ∈ Region.ready md ops (l ++ List.replicate k false).toArray, i < nA ∧ l[i]? = some false ∧ ∀ j ∈ deps i, l[j]? = some true := by
      have hb : (l == List.replicate nA true) = false := by simpa using hne
      simp only [hb, hcl, Bool.not_true, Bool.false_or, Bool.and_eq_true, List.all_eq_true, decide_eq_true_eq, beq_iff_eq] at hm
      exact ⟨hm.1, fun i hi => ⟨(hm.2 i hi).1.1, (hm.2 i hi).1.2, (hm.2 i hi).2⟩⟩
    have e1 : f + 1 + k = (f + k) + 1 := by omega
    rw [e1]
    refine ⟨fun h0 => by rw [h0] at hm2; simp at hm2, fun i hi => ?_⟩
    obtain ⟨hin, hif, hdep⟩ := hm2.2 i hi
    have hdi : ∃ d, ds[i]? = some d := ⟨ds[i]'(by omega), List.getElem?_eq_getElem _⟩
    obtain ⟨d, hdi⟩ := hdi
    refine hstep i d hdi v w hk (fun j hj => hr j (hdep j hj)) _ (fun x w' hk' hx hfr => ?_)
    rw [FrF_put a ds 0 v i d x hds hdi, Nat.zero_add, set_app l k i (by omega)]
    have hset : ∀ j, (l.set i true)[j]? = some true → j ≠ i → l[j]? = some true := fun j hj hji => by
      rw [List.getElem?_set] at hj
      rw [if_neg (Ne.symm hji)] at hj; exact hj
    refine wpAny_first nA k deps ds hds hlen hc R isA hR hstep htail f (l.set i true) (upd v i x) w' (by simp [hl]) (by have := cnt_set l i hif; omega) (hk.trans hk') (fun j hj => ?_) (fun p q hp hq ap aq hpq => ?_) ((closedB_iff _ _).2 (fun p hp q hq => ?_))
    · by_cases e : j = i
      · subst e; rw [upd_same]; exact hx
      · rw [upd_other v x e]; exact hR j _ _ _ (hr j (hset j hj e)) hk'
    · by_cases ep : p = i
      · subst ep
        rw [upd_same, upd_other v x (Ne.symm hpq)]
        exact hfr ap q (v q) aq (hr q (hset q hq (Ne.symm hpq)))
      · by_cases eq : q = i
        · subst eq
          rw [upd_same, upd_other v x ep]
          exact fun h => hfr aq p (v p) ap (hr p (hset p hp ep)) h.symm
        · rw [upd_other v x ep, upd_other v x eq]
          exact hd p q (hset p hp ep) (hset q hq eq) ap aq hpq
    · have hup : ∀ j, l[j]? = some true → (l.set i true)[j]? = some true := fun j hj => by
        rw [List.getElem?_set]
        split
        · rename_i h; subst h; simp; omega
        · exact hj
      by_cases e : p = i
      · subst e; exact hup q (hdep q hq)
      · exact hup q ((closedB_iff _ _).1 hcl p (hset p hp e) q hq)
theorem wpAny_one {i : Nat} {f : Nat} {listed : Array Bool} {a : Act} {w : World} (hr : Region.ready md ops listed = [i]) (h : wpOp P ops Q i (wpAny P md ops Q f (listed.setIfInBounds i true)) a w) : wpAny P md ops Q (f + 1) listed a w :=
  ⟨(fun h0 => by rw [hr] at h0; simp at h0), (fun j hj => by rw [hr] at hj; rw [List.mem_singleton.1 hj]; exact h)⟩
theorem wpAny_none {listed : Array Bool} {a : Act} {w : World} (hr : Region.ready md ops listed = []) (h : Q .normal a w) : wpAny P md ops Q 0 listed a w := ⟨hr, h⟩
theorem put_self (a : Act) (d : Tmp) (h : d < a.tmps.size) : a.put (some d) (a.tmps.getD d undef) = a := by
  obtain ⟨t, df⟩ := a
  have h' : d < t.size := h
  have e : t.setIfInBounds d (t.getD d undef) = t := by
    apply Array.ext
    · simp
    · intro i h1 h2
      rw [Array.getElem_setIfInBounds]
      split
      · rename_i hi; subst hi; simp
      · rfl
  simp only [Act.put]
  rw [e]
theorem FrF_self (a : Act) : ∀ (ds : List Tmp) (i : Nat) (v : Nat → Value), (∀ k d, ds[k]? = some d → d < a.tmps.size ∧ v (i + k) = a.tmps.getD d undef) → FrF a ds i v = a
  | [], _, _, _ => rfl
  | d :: ds, i, v, h => by
    have h0 := h 0 d (by simp)
    rw [Nat.add_zero] at h0
    simp only [FrF]
    rw [FrF_self a ds (i + 1) v (fun k e he => by have := h (k + 1) e (by simpa using he); rwa [show i + 1 + k = i + (k + 1) by omega]), h0.2, put_self a d h0.1]
theorem region_first {id : Nat} (hm : P.follows .mixedOrders = true) {ops : Array Oper} {a : Act} {w : World} (nA k : Nat) (deps : Nat → List Nat) (ds : List Tmp) (hds : ds.Nodup) (hlen : ds.length = nA) (hsz : ops.size = nA + k) (hc : edgesB .any ops nA k deps = true)
    (hin : (ds.all fun d => decide (d < a.tmps.size)) = true) (R : Nat → Value → World → Prop) (isA : Nat → Bool)
    (hR : ∀ i x w w', R i x w → Kept [] w w' → R i x w')
    (hstep : ∀ i d, ds[i]? = some d → ∀ v w', Kept [] w w' → (∀ j ∈ deps i, R j (v j) w') → ∀ K : Act → World → Prop,
      (∀ x w'', Kept [] w' w'' → R i x w'' → (isA i = true → ∀ j y, isA j = true → R j y w' → x ≠ y) → K ((FrF a ds 0 v).put (some d) x) w'') → wpOp P ops Q i K (FrF a ds 0 v) w')
    (htail : ∀ v w', Kept [] w w' → (∀ i, i < nA → R i (v i) w') → (∀ i j, i < nA → j < nA → isA i = true → isA j = true → i ≠ j → v i ≠ v j) → wpAny P .any ops Q k (List.replicate nA true ++ List.replicate k false).toArray (FrF a ds 0 v) w') :
    (Code.region id ops true).wp P Q a w := by
  refine wp_region_any hm ?_
  have hs : FrF a ds 0 (fun i => a.tmps.getD (ds.getD i 0) undef) = a := by
    refine FrF_self a ds 0 _ (fun k d hk => ⟨?_, ?_⟩)
    · have := List.all_eq_true.1 hin d (List.mem_of_getElem? hk)
      simpa using this
    · simp [List.getD_eq_getElem?_getD, hk]
  have key := wpAny_first (P := P) (md := .any) (ops := ops) (Q := Q) (a := a) (w0 := w) nA k deps ds hds hlen hc R isA hR hstep htail nA (List.replicate nA false) (fun i => a.tmps.getD (ds.getD i 0) undef) w.drew (by simp) (by simp [cnt]) (Kept.refl _ _).drew
    (fun i h => by rw [List.getElem?_replicate] at h; split at h <;> simp at h) (fun i j h => by rw [List.getElem?_replicate] at h; split at h <;> simp at h) ((closedB_iff _ _).2 (fun i h => by rw [List.getElem?_replicate] at h; split at h <;> simp at h))
  rw [hs] at key
  have e : (List.replicate nA false ++ List.replicate k false).toArray = Array.replicate ops.size false := by
    rw [List.replicate_append_replicate, hsz, List.toArray_replicate]
  rw [e] at key
  rw [hsz] at key ⊢
  exact key
end
end Go.Proofs.Ytlbhckndejldcaa
