/- A region that draws its order: reads, calls that make memory and hand back fixed values, ONE new variable (an alloc, wherever it comes), then a tail whose order is forced. One walk, in the order of the text, with the alloc struck. No program stands here. -/
import Derived.Test.YtpcabnnihdjhpaaDoorTail
import Derived.Deep.RegionHeld3
namespace Go.Proofs.YtpcabnnihdjhpaaDoor.K
open Go.RowKit

/-- The operation does nothing. -/
def noop (o : Oper) : Oper := { o with op := .assign (.const undef) }
def strike : Nat → List Oper → List Oper
  | _, [] => []
  | 0, o :: r => noop o :: r
  | i + 1, o :: r => o :: strike i r
theorem strike_at : ∀ (i : Nat) (l : List Oper) (j : Nat), (strike i l)[j]? = if j = i then l[j]?.map noop else l[j]?
  | i, [], j => by simp [strike]
  | 0, o :: r, 0 => rfl
  | 0, o :: r, j + 1 => by simp [strike]
  | i + 1, o :: r, 0 => by simp [strike]
  | i + 1, o :: r, j + 1 => by simp [strike, strike_at i r j]
theorem strike_length : ∀ (i : Nat) (l : List Oper), (strike i l).length = l.length
  | _, [] => by simp [strike]
  | 0, o :: r => by simp [strike]
  | i + 1, o :: r => by simp [strike, strike_length i r]

/-- What stays where the world grows, and is met somewhere. -/
structure Stay (W : World) where
  p : World → Prop
  st : ∀ w w', p w → Below w.heap.size w w' → p w'
  g0 : Grow W
  h0 : p g0.w
structure GrowP (W : World) (Φ : Stay W) where
  g : Grow W
  h : Φ.p g.w
instance (W : World) (Φ : Stay W) : Nonempty (GrowP W Φ) := ⟨⟨Φ.g0, Φ.h0⟩⟩
theorem GrowP.call {W : World} {Φ : Stay W} (x : GrowP W Φ) {P : Program} {f : FuncId} {args : Array Value} {v : Value}
    (h : Calls P f args x.g.w fun e w' => e = .returned v ∧ Below x.g.w.heap.size x.g.w w') : Calls P f args x.g.w fun e w' => e = .returned v ∧ ∃ y : GrowP W Φ, w' = y.g.w :=
  h.mono fun _ w' ⟨he, hb⟩ => ⟨he, ⟨⟨w', Below.then_ x.g.h hb⟩, Φ.st _ _ x.h hb⟩, rfl⟩
theorem GrowP.same {W : World} {Φ : Stay W} (x : GrowP W Φ) {P : Program} {f : FuncId} {args : Array Value} {v : Value}
    (h : Calls P f args x.g.w fun e w' => e = .returned v ∧ x.g.w = w') : Calls P f args x.g.w fun e w' => e = .returned v ∧ ∃ y : GrowP W Φ, w' = y.g.w :=
  h.mono fun _ _ ⟨he, hb⟩ => ⟨he, x, hb.symm⟩
def CP (W : World) (Φ : Stay W) (w' : World) : Prop := ∃ x : GrowP W Φ, w' = x.g.w

section
variable {P : Program} {l : List Oper} {md : Region.Mode} {i0 : Nat}
theorem struck_at (j : Nat) : (strike i0 l).toArray[j]? = if j = i0 then l.toArray[j]?.map noop else l.toArray[j]? := by simp [strike_at]
theorem struck_ne {j : Nat} (h : j ≠ i0) : (strike i0 l).toArray[j]? = l.toArray[j]? := by rw [struck_at, if_neg h]
theorem struck_size : (strike i0 l).toArray.size = l.toArray.size := by simp [strike_length]
theorem struck_ready (listed : Array Bool) : Region.ready md (strike i0 l).toArray listed = Region.ready md l.toArray listed := by
  unfold Region.ready
  rw [struck_size]
  apply List.filter_congr
  intro j _
  rw [struck_at]
  split
  · cases l.toArray[j]? <;> rfl
  · rfl
theorem struck_yielded (tmps : Array Value) : yielded (strike i0 l).toArray tmps = yielded l.toArray tmps := by
  funext j
  have e : (strike i0 l).toArray[j]?.bind (·.dst) = l.toArray[j]?.bind (·.dst) := by
    rw [struck_at]
    by_cases h : j = i0
    · rw [if_pos h]; cases l.toArray[j]? <;> rfl
    · rw [if_neg h]
  unfold yielded
  rw [e]
theorem struck_seq : ∀ (g k : Nat) (listed : Array Bool), Region.seqB md (strike i0 l).toArray g k listed = Region.seqB md l.toArray g k listed
  | 0, k, listed => by simp only [Region.seqB, struck_ready]
  | g + 1, k, listed => by simp only [Region.seqB, struck_ready, struck_seq g]

/-- What is asked of the new variable's operation, and of the others of the head. -/
def bornB (md : Region.Mode) (ops : Array Oper) (n i0 d0 : Nat) : Bool :=
  decide (i0 < n) && ((match ops[i0]? with
    | some o => (o.guard matches none) && (o.dst == some d0 && o.after.all fun e => !Region.binds md e)
    | none => false) &&
  ((List.range n).all fun j => j == i0 || match ops[j]? with
    | some o => !(o.looksAt ops).contains d0 && o.dst != some d0
    | none => true)) && (List.range n).all fun i => (List.range n).all fun j => i == j || match ops[i]?, ops[j]? with
    | some oi, some oj => (oi.dst matches none) || oi.dst != oj.dst
    | _, _ => true

variable {n d0 : Nat} {W : World} {F : Act}
structure Born (md : Region.Mode) (ops : Array Oper) (n i0 d0 : Nat) : Prop where
  lt : i0 < n
  at0 : ∃ o, ops[i0]? = some o ∧ o.guard = none ∧ o.dst = some d0 ∧ ∀ e ∈ o.after, Region.binds md e = false
  off : ∀ j o, j < n → j ≠ i0 → ops[j]? = some o → d0 ∉ o.looksAt ops ∧ o.dst ≠ some d0
  apart : ∀ i j oi oj, i < n → j < n → i ≠ j → ops[i]? = some oi → ops[j]? = some oj → ∀ d, oi.dst = some d → oj.dst ≠ some d
theorem born_spec {ops : Array Oper} (h : bornB md ops n i0 d0 = true) : Born md ops n i0 d0 := by
  simp only [bornB, Bool.and_eq_true, decide_eq_true_eq] at h
  obtain ⟨⟨h1, h2, h3⟩, h4⟩ := h
  refine ⟨h1, ?_, fun j o hj hne ho => ?_, fun i j oi oj hi hj hne hoi hoj d hd => ?_⟩
  · cases e : ops[i0]? with
    | none => rw [e] at h2; cases h2
    | some o =>
      rw [e] at h2
      simp only [Bool.and_eq_true, beq_iff_eq] at h2
      obtain ⟨g1, g2, g3⟩ := h2
      refine ⟨o, rfl, ?_, g2, fun e he => ?_⟩
      · cases eg : o.guard with
        | none => rfl
        | some _ => rw [eg] at g1; cases g1
      · have := Array.all_eq_true_iff_forall_mem.1 g3 e he
        simpa using this
  · have := List.all_eq_true.1 h3 j (List.mem_range.2 hj)
    rw [ho] at this
    simpa [hne] using this
  · have := List.all_eq_true.1 (List.all_eq_true.1 h4 i (List.mem_range.2 hi)) j (List.mem_range.2 hj)
    rw [hoi, hoj] at this
    intro hd'
    simp [hne, hd, hd'] at this

theorem put_none (a : Act) (v : Value) : a.put none v = a := rfl
theorem put_get {a : Act} {d : Nat} {v : Value} (h : d < a.tmps.size) : (a.put (some d) v).tmps[d]? = some v := by simp [Act.put, h]
theorem put_other {a : Act} {o : Option Tmp} {d : Nat} {v : Value} (h : o ≠ some d) : (a.put o v).tmps[d]? = a.tmps[d]? := by
  cases o with
  | none => rfl
  | some x => have : x ≠ d := fun e => h (by rw [e]); simp [Act.put, this]
theorem put_out {a : Act} {d : Nat} {v : Value} (h : ¬ d < a.tmps.size) : a.put (some d) v = a := by
  unfold Act.put
  simp only [Array.setIfInBounds, h, dif_neg, not_false_eq_true]
theorem put_put (a : Act) (d : Nat) (u v : Value) : (a.put (some d) u).put (some d) v = a.put (some d) v := by
  simp [Act.put, Array.setIfInBounds_setIfInBounds]

/-- What an operation that has come left in its slot stays there to the end. -/
theorem head_slot {ops : Array Oper} {C : World → Prop} {L : Array Bool → Act → Prop} (hL : ∀ listed a, L listed a → a = F) {i d : Nat} (hd : ∀ j oj, j < n → j ≠ i → ops[j]? = some oj → oj.dst ≠ some d) :
    ∀ (f : Nat) (listed : Array Bool) (a : Act), listed.getD i true = true → wpHead P md ops C n L f listed a → a.tmps[d]? = F.tmps[d]? := by
  intro f
  induction f with
  | zero => intro listed a _ h; rw [hL _ _ h]
  | succ f ih =>
    intro listed a hl h
    obtain ⟨hne, hall⟩ := h
    obtain ⟨j, hj⟩ := List.exists_mem_of_ne_nil _ hne
    obtain ⟨hjn, hq⟩ := hall j hj
    obtain ⟨hun, oj, hoj, _⟩ := mem_ready.1 hj
    have hji : j ≠ i := by rintro rfl; rw [hl] at hun; cases hun
    obtain ⟨v, _, hK⟩ := yieldsIn_of_qOp hoj hq
    have hl' : (listed.setIfInBounds j true).getD i true = true := by rw [getD_set_ne true hji]; exact hl
    rw [← ih _ _ hl' hK, put_other (hd j oj hjn hji hoj)]

theorem uniform {ops : Array Oper} {C C' : World → Prop} {L : Array Bool → Act → Prop} (hL : ∀ listed a, L listed a → a = F) {i : Nat} {oi : Oper} (hd : ∀ d, oi.dst = some d → ∀ j oj, j < n → j ≠ i → ops[j]? = some oj → oj.dst ≠ some d)
    {f : Nat} {listed : Array Bool} (hsz : i < listed.size) {a : Act} {v v' : Value} (h : wpHead P md ops C n L f (listed.setIfInBounds i true) (a.put oi.dst v)) (h' : wpHead P md ops C' n L f (listed.setIfInBounds i true) (a.put oi.dst v')) : a.put oi.dst v = a.put oi.dst v' := by
  cases e : oi.dst with
  | none => rfl
  | some d =>
    by_cases hs : d < a.tmps.size
    · rw [e] at h h'
      have hl : (listed.setIfInBounds i true).getD i true = true := by simp [hsz]
      have e1 := head_slot hL (hd d e) f _ _ hl h
      have e2 := head_slot hL (hd d e) f _ _ hl h'
      rw [put_get hs] at e1 e2
      rw [← e2] at e1
      rw [Option.some.inj e1]
    · rw [put_out hs, put_out hs]

variable {T : TypeId} {Z : Array Value} {g : Nat} {Q' : Exit → Act → World → Prop} {oa : Oper}

/-- The variable has come: block b. -/
theorem born_after (B : Born md l.toArray n i0 d0) (hsel : ∀ (j : Nat) (o : Oper) cs b, l.toArray[j]? = some o → o.op ≠ .select cs b) {L : Array Bool → Act → Prop} (hL : ∀ listed a, L listed a → a = F) (Φ : Stay W) (ptr : Value)
    (hF : ∀ listed w, L listed F → CP W Φ w → wpAny P md l.toArray Q' g listed (F.put (some d0) ptr) w) :
    ∀ (f : Nat) (listed : Array Bool) (a : Act) (w : World), wpHead P md (strike i0 l).toArray (CP W Φ) n L f listed a → listed.getD i0 true = true → CP W Φ w → wpAny P md l.toArray Q' (f + g) listed (a.put (some d0) ptr) w := by
  intro f
  induction f with
  | zero =>
    intro listed a w h _ hw
    rw [Nat.zero_add]
    have e := hL _ _ h
    subst e
    exact hF _ _ h hw
  | succ f ih =>
    intro listed a w h hl hw
    obtain ⟨hne, hall⟩ := h
    rw [struck_ready] at hne hall
    rw [show f + 1 + g = (f + g) + 1 by omega]
    refine ⟨fun h0 => absurd h0 hne, fun i hi => ?_⟩
    obtain ⟨hin, hq⟩ := hall i hi
    obtain ⟨hun, oi, hoi, _⟩ := mem_ready.1 hi
    have hii : i ≠ i0 := by rintro rfl; rw [hl] at hun; cases hun
    obtain ⟨hlook, hdst⟩ := B.off i oi hin hii hoi
    have hl' : (listed.setIfInBounds i true).getD i0 true = true := by rw [getD_set_ne true hii]; exact hl
    unfold qOp at hq
    rw [struck_ne hii, hoi] at hq
    simp only [struck_yielded] at hq
    unfold wpOp
    simp only [hoi]
    rw [wanted_put oi a (some d0) ptr (fun d hd => by cases hd; exact hlook)]
    have comm : ∀ v, (a.put (some d0) ptr).put oi.dst v = (a.put oi.dst v).put (some d0) ptr := fun v => Act.put_comm a ptr v (fun d hd => by cases hd; exact hdst)
    split
    · rename_i hwd
      rw [if_pos hwd] at hq
      obtain ⟨v, hv, hK⟩ := hq
      refine .inl (Oper.wp_of_quiet (C := CP W Φ) (K := fun a' => a' = (a.put (some d0) ptr).put oi.dst v) hw (fun a' w' hw' he => ?_) ⟨v, fun w' hw' => ?_, rfl⟩)
      · rw [he, comm]; exact ih _ _ w' hK hl' hw'
      · have := hv w' hw'
        unfold Oper.quietAt at this ⊢
        rw [execOp_put oi (fun cs b => hsel i oi cs b hoi) a (some d0) ptr (fun d hd => by cases hd; exact hlook)]
        exact this
    · rename_i hwd
      rw [if_neg hwd] at hq
      rw [comm]
      exact ih _ _ w hq hl' hw

theorem stay_top (W : World) : ∃ Φ : Stay W, ∀ w, CP W Φ w ↔ Below W.heap.size W w :=
  ⟨⟨fun _ => True, fun _ _ _ _ => trivial, ⟨W, Below.refl _ _⟩, trivial⟩, fun w => ⟨fun ⟨x, e⟩ => e ▸ x.g.h, fun h => ⟨⟨⟨w, h⟩, trivial⟩, rfl⟩⟩⟩

/-- The variable has not come yet. -/
theorem born_before (B : Born md l.toArray n i0 d0) (hsel : ∀ (j : Nat) (o : Oper) cs b, l.toArray[j]? = some o → o.op ≠ .select cs b) {L : Array Bool → Act → Prop} (hL : ∀ listed a, L listed a → a = F) (hdone : ∀ listed a, L listed a → ∀ j ∈ Region.ready md l.toArray listed, n ≤ j)
    (hoa : l.toArray[i0]? = some oa) (hal : ∀ ρ w, (execOp ρ oa).run P w = .ok (.value (.pointer (some ⟨w.heap.size, 0, none⟩))) (w.alloc (.cells Z T)))
    (hF : ∀ b listed w, W.heap.size ≤ b → L listed F → Below W.heap.size W w → Blk w b T Z → wpAny P md l.toArray Q' g listed (F.put (some d0) (.pointer (some ⟨b, 0, none⟩))) w) :
    ∀ (f : Nat) (listed : Array Bool) (a : Act) (w : World), listed.size = l.toArray.size → (∀ Φ : Stay W, wpHead P md (strike i0 l).toArray (CP W Φ) n L f listed a) → listed.getD i0 true = false → Below W.heap.size W w → wpAny P md l.toArray Q' (f + g) listed a w := by
  obtain ⟨ob, hob, hbg, hbd, hba⟩ := B.at0
  obtain rfl : oa = ob := Option.some.inj (hoa.symm.trans hob)
  obtain ⟨ΦT, hΦT⟩ := stay_top W
  intro f
  induction f with
  | zero =>
    intro listed a w _ h hl _
    have hr : i0 ∈ Region.ready md l.toArray listed := mem_ready.2 ⟨hl, oa, hoa, fun e he hb => by rw [hba e he] at hb; cases hb⟩
    have := hdone _ _ (h ΦT) _ hr
    have := B.lt
    omega
  | succ f ih =>
    intro listed a w hsz h hl hw
    rw [show f + 1 + g = (f + g) + 1 by omega]
    have hne := (h ΦT).1
    rw [struck_ready] at hne
    refine ⟨fun h0 => absurd h0 hne, fun i hi => ?_⟩
    have hq : ∀ Φ : Stay W, i < n ∧ qOp P (strike i0 l).toArray (CP W Φ) i (wpHead P md (strike i0 l).toArray (CP W Φ) n L f (listed.setIfInBounds i true)) a := fun Φ => (h Φ).2 i (by rw [struck_ready]; exact hi)
    obtain ⟨hun, oi, hoi, _⟩ := mem_ready.1 hi
    have hisz : i < listed.size := by rw [hsz]; exact (Array.getElem?_eq_some_iff.1 hoi).1
    have hsz' : (listed.setIfInBounds i true).size = l.toArray.size := by simpa using hsz
    have hin := (hq ΦT).1
    by_cases hii : i = i0
    · subst hii
      obtain rfl : oa = oi := Option.some.inj (hoa.symm.trans hoi)
      unfold wpOp
      simp only [hoi]
      have hwant : ∀ tm : Array Value, Region.wanted oa (yielded l.toArray tm) = true := fun tm => by simp [Region.wanted, hbg]
      rw [if_pos (hwant _)]
      left
      unfold Oper.wp
      rw [hal]
      simp only [Oper.upon]
      have hbl : Below W.heap.size W (w.alloc (.cells Z T)) := hw.alloc hw.size _
      have hbk : Blk (w.alloc (.cells Z T)) w.heap.size T Z := Blk.new _ _ _
      let Φ : Stay W := ⟨fun w' => Blk w' w.heap.size T Z, fun _ _ hp hb => hp.below hb, ⟨_, hbl⟩, hbk⟩
      have hqΦ := (hq Φ).2
      have hstr : (strike i l).toArray[i]? = some (noop oa) := by rw [struck_at, if_pos rfl, hoi]; rfl
      obtain ⟨v, _, hK⟩ := yieldsIn_of_qOp hstr hqΦ
      have hK' : wpHead P md (strike i l).toArray (CP W Φ) n L f (listed.setIfInBounds i true) (a.put (some d0) v) := by
        have : (noop oa).dst = some d0 := hbd
        rw [this] at hK
        exact hK
      have hl' : (listed.setIfInBounds i true).getD i true = true := by simp [hisz]
      have := born_after B hsel hL Φ (.pointer (some ⟨w.heap.size, 0, none⟩)) (fun listed' w' hL' hw' => by
        obtain ⟨x, rfl⟩ := hw'
        exact hF _ _ _ hw.size hL' x.g.h x.h) f _ _ (w.alloc (.cells Z T)) hK' hl' ⟨⟨⟨_, hbl⟩, hbk⟩, rfl⟩
      rw [put_put] at this
      rw [hbd]
      exact this
    · have hd : ∀ d, oi.dst = some d → ∀ j oj, j < n → j ≠ i → (strike i0 l).toArray[j]? = some oj → oj.dst ≠ some d := by
        intro d hd j oj hj hji hoj
        rw [struck_at] at hoj
        split at hoj
        · rename_i hj0
          subst hj0
          rw [hoa] at hoj
          obtain rfl : noop oa = oj := by simpa using hoj
          exact B.apart i j oi oa hin hj (fun e => hji e.symm) hoi hoa d hd
        · exact B.apart i j oi oj hin hj (fun e => hji e.symm) hoi hoj d hd
      have hl' : (listed.setIfInBounds i true).getD i0 true = false := by rw [getD_set_ne true hii]; exact hl
      have hqT := (hq ΦT).2
      unfold qOp at hqT
      rw [struck_ne hii, hoi] at hqT
      simp only [struck_yielded] at hqT
      unfold wpOp
      simp only [hoi]
      split
      · rename_i hwd
        rw [if_pos hwd] at hqT
        obtain ⟨v, hv, hK⟩ := hqT
        refine .inl (Oper.wp_of_quiet (C := CP W ΦT) (K := fun a' => a' = a.put oi.dst v) ((hΦT _).2 hw) (fun a' w' hw' he => ?_) ⟨v, hv, rfl⟩)
        rw [he]
        refine ih _ _ w' hsz' (fun Φ => ?_) hl' ((hΦT _).1 hw')
        have hqΦ := (hq Φ).2
        unfold qOp at hqΦ
        rw [struck_ne hii, hoi] at hqΦ
        simp only [struck_yielded] at hqΦ
        rw [if_pos hwd] at hqΦ
        obtain ⟨v', _, hK'⟩ := hqΦ
        rw [uniform hL hd hisz hK hK']
        exact hK'
      · rename_i hwd
        rw [if_neg hwd] at hqT
        refine ih _ _ w hsz' (fun Φ => ?_) hl' hw
        have hqΦ := (hq Φ).2
        unfold qOp at hqΦ
        rw [struck_ne hii, hoi] at hqΦ
        simp only [struck_yielded] at hqΦ
        rw [if_neg hwd] at hqΦ
        exact hqΦ

/-- THE LAW. -/
theorem any_born_tail {Q : Exit → Act → World → Prop} {a : Act} {w : World} (n i0 d0 : Nat) (T : TypeId) (Z : Array Value) (F : Act)
    (hB : Region.lexTailB .any (strike i0 l).toArray n = true) (hb : bornB .any l.toArray n i0 d0 = true) (hns : Region.noSelect l.toArray = true)
    (hoa : l.toArray[i0]? = some oa) (hal : ∀ ρ w, (execOp ρ oa).run P w = .ok (.value (.pointer (some ⟨w.heap.size, 0, none⟩))) (w.alloc (.cells Z T)))
    (h : ∀ Φ : Stay w, wpQuiet P (strike i0 l).toArray (fun w' => ∃ x : GrowP w Φ, w' = x.g.w) (fun a' => a' = F) ((strike i0 l).take n) a)
    (hT : ∀ b w', w.heap.size ≤ b → Below w.heap.size w w' → Blk w' b T Z → wpList P l.toArray Q (l.drop n) (F.put (some d0) (.pointer (some ⟨b, 0, none⟩))) w') : wpAny P .any l.toArray Q l.toArray.size (Array.replicate l.toArray.size false) a { w with drawn := w.drawn + 1 } := by
  have hB' := hB
  simp only [Region.lexTailB, Bool.and_eq_true, decide_eq_true_eq] at hB'
  obtain ⟨⟨⟨⟨hsel, hn⟩, hs⟩, hc⟩, hlex⟩ := hB'
  have B := born_spec hb
  have hn' : n < l.length := by simpa [strike_length] using hn
  have htl : ((strike i0 l).take n).length = n := by simp [strike_length]; omega
  have hdl : (l.drop n).length = l.toArray.size - n := by simp
  have hsz : (strike i0 l).toArray.size = l.toArray.size := struck_size
  have inv0 : HeadInv .any (strike i0 l).toArray n (Array.replicate (strike i0 l).toArray.size false) :=
    ⟨by simp, fun j oj _ hl => (by rw [getD_replicate_false] at hl; cases hl), fun t _ ht => getD_in (by simpa using ht) (getD_replicate_false _ _)⟩
  have H : ∀ Φ : Stay w, wpHead P .any (strike i0 l).toArray (CP w Φ) n (fun listed' a' => Region.seqB .any (strike i0 l).toArray (l.toArray.size - n) n listed' = true ∧ a' = F) n (Array.replicate l.toArray.size false) a := fun Φ => by
    have := wpHead_lex (md := .any) (C := CP w Φ) (g := (strike i0 l).toArray.size - n) hsel hs hc hn ((strike i0 l).take n) 0 _ a (fun j hj => by
      have hj' : j < n := by rw [htl] at hj; exact hj
      simp [hj']) (by simpa using htl) inv0 (by rw [htl]; exact hlex) (h Φ)
    rw [htl, hsz] at this
    exact this
  have := born_before (Q' := Q) (F := F) (g := l.toArray.size - n) (L := fun listed' a' => Region.seqB .any (strike i0 l).toArray (l.toArray.size - n) n listed' = true ∧ a' = F) B (fun j o cs b => Region.noSelect_spec hns j o cs b) (fun _ _ hL => hL.2)
    (fun listed a' hL j hj => seqB_ready hL.1 j (by rw [struck_ready]; exact hj)) hoa hal (fun b listed w' hbs hL hw' hk => by
      have h1 := hL.1
      rw [struck_seq] at h1
      have := wpAny_of_seq (md := .any) (Q' := Q) (l.drop n) n listed (F.put (some d0) (.pointer (some ⟨b, 0, none⟩))) w' (fun j => by simp [List.getElem?_drop]) (by rw [hdl]; exact h1) (hT b w' hbs hw' hk)
      rwa [hdl] at this) n _ a { w with drawn := w.drawn + 1 } (by simp) H (by
        have := B.lt
        exact getD_in (by simp; omega) (getD_replicate_false _ _)) (below_drewN (Below.refl _ w) 1)
  rw [show n + (l.toArray.size - n) = l.toArray.size by simp; omega] at this
  exact this
/-- The same, the frame behind the head to be read off the walk. -/
theorem wp_born {id : Nat} {Q : Exit → Act → World → Prop} {a : Act} {w : World} (n i0 d0 : Nat) (T : TypeId) (Z : Array Value) (hm : P.follows .mixedOrders = true)
    (hB : Region.lexTailB .any (strike i0 l).toArray n = true) (hb : bornB .any l.toArray n i0 d0 = true) (hns : Region.noSelect l.toArray = true)
    (hoa : ∃ oa, l.toArray[i0]? = some oa ∧ ∀ ρ w, (execOp ρ oa).run P w = .ok (.value (.pointer (some ⟨w.heap.size, 0, none⟩))) (w.alloc (.cells Z T)))
    (h : ∃ F, (∀ Φ : Stay w, wpQuiet P (strike i0 l).toArray (fun w' => ∃ x : GrowP w Φ, w' = x.g.w) (fun a' => a' = F) ((strike i0 l).take n) a) ∧
      ∀ b w', w.heap.size ≤ b → Below w.heap.size w w' → Blk w' b T Z → wpList P l.toArray Q (l.drop n) (F.put (some d0) (.pointer (some ⟨b, 0, none⟩))) w') : (Code.region id l.toArray true).wp P Q a w := by
  obtain ⟨oa, h1, h2⟩ := hoa
  obtain ⟨F, h3, h4⟩ := h
  exact wp_region_any hm (any_born_tail n i0 d0 T Z F hB hb hns h1 h2 h3 h4)
end

/-! ### An edge more: a taking apart of a tuple may be thought ahead of a store -/
def later (p : Nat) (o : Oper) : Oper := { o with after := o.after.push ⟨p, .data⟩ }
/-- Operation s waits for operation p. -/
def edge (p : Nat) : Nat → List Oper → List Oper
  | _, [] => []
  | 0, o :: r => later p o :: r
  | i + 1, o :: r => o :: edge p i r
theorem edge_at (p : Nat) : ∀ (i : Nat) (l : List Oper) (j : Nat), (edge p i l)[j]? = if j = i then l[j]?.map (later p) else l[j]?
  | i, [], j => by simp [edge]
  | 0, o :: r, 0 => rfl
  | 0, o :: r, j + 1 => by simp [edge]
  | i + 1, o :: r, 0 => by simp [edge]
  | i + 1, o :: r, j + 1 => by simp [edge, edge_at p i r j]
theorem edge_length (p : Nat) : ∀ (i : Nat) (l : List Oper), (edge p i l).length = l.length
  | _, [] => by simp [edge]
  | 0, o :: r => by simp [edge]
  | i + 1, o :: r => by simp [edge, edge_length p i r]

def edgeB (md : Region.Mode) (ops : Array Oper) (p s : Nat) : Bool :=
  p != s && match ops[p]?, ops[s]? with
  | some op, some os => (op.guard matches none) && ((op.op matches .extract _ _) && ((op.after.all fun e => !Region.binds md e || os.after.any fun e' => Region.binds md e' && e'.on == e.on) &&
      (List.range ops.size).all fun j => j == p || match ops[j]? with
        | some oj => op.after.any (fun e => Region.binds md e && e.on == j) || (oj.after.any (fun e => Region.binds md e && e.on == p) || op.apart ops oj)
        | none => true))
  | _, _ => false

section
variable {P : Program} {l : List Oper} {md : Region.Mode} {p s : Nat} {Q : Exit → Act → World → Prop}
theorem edged_at (j : Nat) : (edge p s l).toArray[j]? = if j = s then l.toArray[j]?.map (later p) else l.toArray[j]? := by simp [edge_at]
theorem edged_yielded (tmps : Array Value) : yielded (edge p s l).toArray tmps = yielded l.toArray tmps := by
  funext j
  have e : (edge p s l).toArray[j]?.bind (·.dst) = l.toArray[j]?.bind (·.dst) := by
    rw [edged_at]
    by_cases h : j = s
    · rw [if_pos h]; cases l.toArray[j]? <;> rfl
    · rw [if_neg h]
  unfold yielded
  rw [e]
theorem edged_op {i : Nat} {K : Act → World → Prop} {a : Act} {w : World} (h : wpOp P (edge p s l).toArray Q i K a w) : wpOp P l.toArray Q i K a w := by
  unfold wpOp at *
  rw [edged_at] at h
  simp only [edged_yielded] at h
  by_cases e : i = s
  · rw [if_pos e] at h
    cases ho : l.toArray[i]? with
    | none => rw [ho] at h; exact h
    | some o => rw [ho] at h; exact h
  · rw [if_neg e] at h; exact h

/-- To take a tuple apart yields the same in every world. -/
theorem extract_yields {ops : Array Oper} {o : Oper} {x : Operand} {k : Nat} (ho : o.op = .extract x k) (hg : o.guard = none) {i : Nat} (hi : ops[i]? = some o) {K : Act → World → Prop} {a : Act} {w : World} (h : wpOp P ops Q i K a w) : ∃ v, Yields P ops o v a ∧ K (a.put o.dst v) w := by
  unfold wpOp at h
  have hw : Region.wanted o (yielded ops a.tmps) = true := by simp [Region.wanted, hg]
  simp only [hi, hw, if_true] at h
  have key : (∃ v, ∀ w, (execOp a.eval o).run P w = .ok (.value v) w) ∨ (∀ w, ∃ r, (execOp a.eval o).run P w = .halt (.stuck r) w ∧ ((execOp a.eval o).runT P w #[]).2 = #[]) := by
    unfold execOp
    simp only [ho]
    unfold Instr.extract
    split
    · rename_i vs _
      cases hv : vs[k]? with
      | some v => left; exact ⟨v, fun w => rfl⟩
      | none => right; intro w; exact ⟨_, rfl, rfl⟩
    · right; intro w; exact ⟨_, rfl, rfl⟩
  rcases key with ⟨v, hv⟩ | hb
  · refine ⟨v, .inl ⟨hw, hv⟩, ?_⟩
    rcases h with h | ⟨h, _⟩
    · unfold Oper.wp at h; rw [hv] at h; exact h
    · unfold Oper.asks at h
      have : ((execOp a.eval o).runT P w #[]).2 = #[] := by
        unfold execOp
        simp only [ho]
        unfold Instr.extract
        split
        · split <;> rfl
        · rfl
      rw [this] at h
      simp at h
  · obtain ⟨r, h1, h2⟩ := hb w
    rcases h with h | ⟨h, _⟩
    · unfold Oper.wp at h; rw [h1] at h; exact h.elim
    · unfold Oper.asks at h
      rw [h2] at h
      simp at h

theorem wpAny_edge (hB : edgeB md l.toArray p s = true) (hns : Region.noSelect l.toArray = true) (hQ : ∀ c a d v w, Q (.panic c) (a.put d v) w → Q (.panic c) a w) :
    ∀ (fuel : Nat) (listed : Array Bool) (a : Act) (w : World), listed.size = l.toArray.size → wpAny P md (edge p s l).toArray Q fuel listed a w → wpAny P md l.toArray Q fuel listed a w := by
  simp only [edgeB, Bool.and_eq_true, bne_iff_ne, ne_eq] at hB
  obtain ⟨hps, hB⟩ := hB
  cases hop : l.toArray[p]? with
  | none => rw [hop] at hB; cases hB
  | some op =>
  cases hos : l.toArray[s]? with
  | none => rw [hop, hos] at hB; cases hB
  | some os =>
  rw [hop, hos] at hB
  simp only [Bool.and_eq_true] at hB
  obtain ⟨hg, hx, hpre, hfree⟩ := hB
  have hg' : op.guard = none := by
    cases e : op.guard with
    | none => rfl
    | some _ => rw [e] at hg; cases hg
  obtain ⟨x, k, hx'⟩ : ∃ x k, op.op = .extract x k := by
    cases e : op.op <;> rw [e] at hx <;> first | exact ⟨_, _, rfl⟩ | cases hx
  have hpre' : ∀ e ∈ op.after, Region.binds md e = true → ∃ e' ∈ os.after, Region.binds md e' = true ∧ e'.on = e.on := fun e he hb => by
    have := Array.all_eq_true_iff_forall_mem.1 hpre e he
    simp only [hb, Bool.not_true, Bool.false_or] at this
    obtain ⟨e', he', h⟩ := Array.any_eq_true'.1 this
    simp only [Bool.and_eq_true, beq_iff_eq] at h
    exact ⟨e', he', h⟩
  -- what is ready
  have up : ∀ (listed : Array Bool) j, j ∈ Region.ready md (edge p s l).toArray listed → j ∈ Region.ready md l.toArray listed := by
    intro listed j hj
    obtain ⟨h0, o, ho, hall⟩ := mem_ready.1 hj
    rw [edged_at] at ho
    by_cases e : j = s
    · rw [if_pos e] at ho
      obtain ⟨o', ho', rfl⟩ := Option.map_eq_some_iff.1 ho
      exact mem_ready.2 ⟨h0, o', ho', fun e he hb => hall e (by simp [later, he]) hb⟩
    · rw [if_neg e] at ho
      exact mem_ready.2 ⟨h0, o, ho, hall⟩
  have down : ∀ (listed : Array Bool) j, j ∈ Region.ready md l.toArray listed → (j = s → listed.getD p false = true) → j ∈ Region.ready md (edge p s l).toArray listed := by
    intro listed j hj hjs
    obtain ⟨h0, o, ho, hall⟩ := mem_ready.1 hj
    by_cases e : j = s
    · refine mem_ready.2 ⟨h0, later p o, by rw [edged_at, if_pos e, ho]; rfl, fun e' he hb => ?_⟩
      simp only [later, Array.mem_push] at he
      rcases he with he | rfl
      · exact hall e' he hb
      · exact hjs e
    · exact mem_ready.2 ⟨h0, o, by rw [edged_at, if_neg e]; exact ho, hall⟩
  have pready : ∀ (listed : Array Bool), listed.size = l.toArray.size → s ∈ Region.ready md l.toArray listed → listed.getD p false = false → p ∈ Region.ready md l.toArray listed := by
    intro listed hsz hs hp
    obtain ⟨_, o, ho, hall⟩ := mem_ready.1 hs
    obtain rfl : os = o := Option.some.inj (hos.symm.trans ho)
    have hlt : p < listed.size := by rw [hsz]; exact (Array.getElem?_eq_some_iff.1 hop).1
    refine mem_ready.2 ⟨getD_in hlt hp, op, hop, fun e he hb => ?_⟩
    obtain ⟨e', he', hb', h⟩ := hpre' e he hb
    rw [← h]
    exact hall e' he' hb'
  intro fuel
  induction fuel with
  | zero =>
    intro listed a w hsz h
    refine ⟨List.eq_nil_iff_forall_not_mem.2 fun j hj => ?_, h.2⟩
    have hno : ∀ i, i ∉ Region.ready md (edge p s l).toArray listed := List.eq_nil_iff_forall_not_mem.1 h.1
    by_cases e : j = s
    · subst e
      cases hp : listed.getD p false with
      | true => exact hno _ (down _ _ hj fun _ => hp)
      | false => exact hno _ (down _ _ (pready listed hsz hj hp) fun e => absurd e hps)
    · exact hno _ (down _ _ hj fun e' => absurd e' e)
  | succ fuel ih =>
    intro listed a w hsz h
    have hsz' : ∀ i, (listed.setIfInBounds i true).size = l.toArray.size := fun i => by simpa using hsz
    by_cases hpr : p ∈ Region.ready md l.toArray listed
    · have h1 := edged_op (h.2 p (down _ _ hpr fun e => absurd e hps))
      obtain ⟨v, hy, hK⟩ := extract_yields hx' hg' hop h1
      refine wpAny_first hop (Region.noSelect_spec hns) (fun c a w => hQ c a _ v w) fuel listed a w (fun j oj hoj hne hunl hno => ?_) hpr hy (ih _ _ _ (hsz' p) hK)
      have hj : j < l.toArray.size := (Array.getElem?_eq_some_iff.1 hoj).1
      have := List.all_eq_true.1 hfree j (List.mem_range.2 hj)
      rw [hoj] at this
      simp only [Bool.or_eq_true, beq_iff_eq] at this
      rcases this with e | e | e | e
      · exact absurd e hne
      · obtain ⟨e', he', h⟩ := Array.any_eq_true'.1 e
        simp only [Bool.and_eq_true, beq_iff_eq] at h
        obtain ⟨_, o2, ho2, hall2⟩ := mem_ready.1 hpr
        obtain rfl : op = o2 := Option.some.inj (hop.symm.trans ho2)
        have h2 := hall2 e' he' h.1
        rw [h.2, getD_both hunl] at h2
        cases h2
      · obtain ⟨e', he', h⟩ := Array.any_eq_true'.1 e
        simp only [Bool.and_eq_true, beq_iff_eq] at h
        exact absurd h.2 (hno e' he' h.1)
      · exact e
    · have same : ∀ j ∈ Region.ready md l.toArray listed, j ∈ Region.ready md (edge p s l).toArray listed := fun j hj => down _ _ hj fun e => by
        subst e
        cases hp : listed.getD p false with
        | true => rfl
        | false => exact absurd (pready listed hsz hj hp) hpr
      refine ⟨fun h0 => h.1 ?_, fun i hi => ?_⟩
      · refine List.eq_nil_iff_forall_not_mem.2 fun j hj => ?_
        have := up _ _ hj
        rw [h0] at this
        cases this
      · exact wpOp_mono (fun a' w' h' => ih _ a' w' (hsz' i) h') (edged_op (h.2 i (same i hi)))
/-- The law of the new variable, where operation p may come behind the store s. -/
theorem wp_born_edge {id : Nat} {a : Act} {w : World} (p s n i0 d0 : Nat) (T : TypeId) (Z : Array Value) (hm : P.follows .mixedOrders = true) (hE : edgeB .any l.toArray p s = true) (hns : Region.noSelect l.toArray = true)
    (hB : Region.lexTailB .any (strike i0 (edge p s l)).toArray n = true) (hb : bornB .any (edge p s l).toArray n i0 d0 = true) (hns2 : Region.noSelect (edge p s l).toArray = true)
    (hoa : ∃ oa, (edge p s l).toArray[i0]? = some oa ∧ ∀ ρ w, (execOp ρ oa).run P w = .ok (.value (.pointer (some ⟨w.heap.size, 0, none⟩))) (w.alloc (.cells Z T)))
    (h : ∃ F, (∀ Φ : Stay w, wpQuiet P (strike i0 (edge p s l)).toArray (fun w' => ∃ x : GrowP w Φ, w' = x.g.w) (fun a' => a' = F) ((strike i0 (edge p s l)).take n) a) ∧
      ∀ b w', w.heap.size ≤ b → Below w.heap.size w w' → Blk w' b T Z → wpList P (edge p s l).toArray (NoPanic Q) ((edge p s l).drop n) (F.put (some d0) (.pointer (some ⟨b, 0, none⟩))) w') : (Code.region id l.toArray true).wp P Q a w := by
  obtain ⟨oa, h1, h2⟩ := hoa
  obtain ⟨F, h3, h4⟩ := h
  have := any_born_tail (Q := NoPanic Q) n i0 d0 T Z F hB hb hns2 h1 h2 h3 h4
  rw [show (edge p s l).toArray.size = l.toArray.size by simp [edge_length]] at this
  exact wp_region_noPanic (wp_region_any hm (wpAny_edge hE hns (fun _ _ _ _ _ h => h) _ _ _ _ (by simp) this))
end
end Go.Proofs.YtpcabnnihdjhpaaDoor.K
