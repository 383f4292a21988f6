/- The numbers that the console prints are small; what a command is handed and what it leaves. -/
import Derived.Test.YtjalgpioklcbfaaGreatDoorMgConsoleAP
import Derived.Test.YtjalgpioklcbfaaGreatDoorKCnD
set_option linter.unusedVariables false
set_option linter.unusedSimpArgs false
namespace Go.Proofs.YtjalgpioklcbfaaGreatDoor
open Go.RowKit Go.Lib

theorem i64b_of {x : Int} (h0 : -1000000000 ≤ x) (h1 : x ≤ 1000000000) : i64b x := ⟨by omega, by omega⟩
theorem wayF_bd (l : List Tb) (L : List Int) (to_ : Int) (hl : l.length ≤ 1000) : ∀ (f : Nat) (p : Int), ∀ v ∈ wayF l L to_ f p, i64b v
  | 0, p, v, hv => by rw [wayF] at hv; cases hv
  | f + 1, p, v, hv => by
    rw [wayF] at hv
    split at hv
    · cases hv
    · split at hv
      · rename_i i hi
        have := (List.findIdx?_eq_some_iff_getElem.1 hi).1
        rcases List.mem_cons.1 hv with rfl | hv
        · exact i64b_of (by omega) (by omega)
        · exact wayF_bd l L to_ hl f _ v hv
      · cases hv
theorem wayC_bd (x : Nt) (a b : Int) : ∀ v ∈ (wayC x a b).1, i64b v := by
  unfold wayC
  split
  · intro v hv; cases hv
  · rename_i h
    split
    · intro v hv; cases hv
    · split
      · intro v hv; cases hv
      · intro v hv
        have h24 := (okNt_tubes (by simpa using h)).2.2.1
        exact wayF_bd _ _ _ (by omega) _ _ v hv
theorem wayC_len (x : Nt) (a b : Int) : (wayC x a b).1.length ≤ 480001 := by
  unfold wayC
  split
  · simp
  · rename_i h
    split
    · simp
    · rename_i h2
      split
      · simp
      · have hok : okNt x = true := by simpa using h
        have h3 : (inR a 0 (x.sta - 1) && inR b 0 (x.sta - 1)) = true := by simpa using h2
        rw [Bool.and_eq_true] at h3
        have ha := inR_true.1 h3.1
        have hb := inR_true.1 h3.2
        have h4 := farF_bd hok hb.1 (by omega) a ha.1
        have h5 := wayG_length x.tubes (farF x b) b ((at0 (farF x b) a).toNat + 1) a
        show (wayF x.tubes (farF x b) b ((at0 (farF x b) a).toNat + 1) a).length ≤ 480001
        omega
theorem findF_len (ps : List Int) (sec : Int) : ∀ (f : Nat) (lo hi : Int), (findF ps sec f lo hi).length ≤ f
  | 0, _, _ => by simp [findF]
  | f + 1, lo, hi => by
    rw [findF]
    split
    · rw [List.length_cons]
      split
      · have := findF_len ps sec f lo (worstF ps lo hi).2; omega
      · have := findF_len ps sec f ((worstF ps lo hi).2 + 1) hi; omega
    · simp
theorem okOp_len {ps : List Int} (h : okOp ps = true) : ps.length ≤ 9 := by
  unfold okOp at h
  rw [Bool.and_eq_true] at h
  exact of_decide_eq_true h.2
theorem seaC_len (ps : List Int) (sec : Int) : (seaC ps sec).1.length ≤ 1048576 := by
  unfold seaC
  split
  · simp
  · rename_i h
    split
    · simp
    · have hl := okOp_len (by simpa using h)
      have hn := findF_len ps sec (((ps.length : Int) - 0).toNat) 0 ps.length
      show (findF ps sec (((ps.length : Int) - 0).toNat) 0 ps.length).length ≤ 1048576
      omega
theorem findF_bd {ps : List Int} (h : okOp ps = true) (sec : Int) (hl : ps.length ≤ 1000) : ∀ (f : Nat) (lo hi : Int), 0 ≤ lo → hi ≤ ps.length → ∀ v ∈ findF ps sec f lo hi, 0 ≤ v ∧ v < ps.length
  | 0, lo, hi, _, _, v, hv => by rw [findF] at hv; cases hv
  | f + 1, lo, hi, h0, h1, v, hv => by
    rw [findF] at hv
    split at hv
    · rename_i hlt
      have hw := (worstF_ok h h0 (by omega) h1).1 hlt
      rcases List.mem_cons.1 hv with rfl | hv
      · omega
      · split at hv
        · exact findF_bd h sec hl f lo _ h0 (by omega) v hv
        · exact findF_bd h sec hl f _ hi (by omega) h1 v hv
    · cases hv
theorem sumAt_bd {ps : List Int} (h : okOp ps = true) : ∀ (l : List Int), (∀ v ∈ l, 0 ≤ v ∧ v < ps.length) → 0 ≤ sumAt ps l ∧ sumAt ps l ≤ 1000 * (l.length : Int)
  | [], _ => ⟨Int.le_refl _, by show (0 : Int) ≤ _; simp⟩
  | k :: r, hl => by
    have h1 := hl k (by simp)
    have h2 := okOp_at h k h1.1 h1.2
    have h3 := sumAt_bd h r (fun v hv => hl v (List.mem_cons_of_mem _ hv))
    rw [sumAt, List.length_cons]
    omega
theorem seaC_bd (ps : List Int) (sec : Int) : (∀ v ∈ (seaC ps sec).1, i64b v) ∧ i64b (seaC ps sec).2.1 := by
  unfold seaC
  split
  · exact ⟨fun v hv => (by cases hv), by unfold i64b; decide⟩
  · rename_i h
    split
    · exact ⟨fun v hv => (by cases hv), by unfold i64b; decide⟩
    · have hok : okOp ps = true := by simpa using h
      have hl := okOp_len hok
      have hb := findF_bd hok sec (by omega) (((ps.length : Int) - 0).toNat) 0 ps.length (Int.le_refl _) (Int.le_refl _)
      have hs := sumAt_bd hok _ hb
      have hn := findF_len ps sec (((ps.length : Int) - 0).toNat) 0 ps.length
      refine ⟨fun v hv => ?_, ?_⟩
      · have := hb v hv
        exact i64b_of (by omega) (by omega)
      · show i64b (sumAt ps (findF ps sec (((ps.length : Int) - 0).toNat) 0 ps.length))
        exact i64b_of (by omega) (by omega)
theorem sv_bd {l : List It} (hl : l.length ≤ 1000) {o R : List Int} {t : Int} (h : Sv l o t R) (ho : ∀ v ∈ o, i64b v) : ∀ v ∈ R, i64b v := by
  induction h with
  | done _ => exact ho
  | idle _ _ _ ih => exact ih ho
  | @step o t R hlt hp hs ih =>
    refine ih fun v hv => ?_
    rw [List.mem_append, List.mem_singleton] at hv
    rcases hv with hv | rfl
    · exact ho v hv
    · rcases (pickG_ok l o t l 0 (-1) rfl (.inl rfl)).1 with e | ⟨k, e, hk, _⟩
      · rw [e]; unfold i64b; decide
      · rw [e]; exact i64b_of (by omega) (by omega)
theorem okQ_len {l : List It} (h : okQ l = true) : l.length ≤ 12 := by
  unfold okQ at h
  rw [Bool.and_eq_true] at h
  exact of_decide_eq_true h.1
theorem srvC_bd (l : List It) : ∀ v ∈ (srvC l).1, i64b v := by
  unfold srvC
  split
  · intro v hv; cases hv
  · rename_i h
    have hok : okQ l = true := by simpa using h
    exact sv_bd (by have := okQ_len hok; omega) (svR_is hok) (fun v hv => by cases hv)
theorem outI_bd : ∀ (l : List Sn) (i : Nat), l.length + i ≤ 1000 → ∀ v ∈ flatP (outI l i), i64b v
  | [], i, _, v, hv => by cases hv
  | s :: l, i, h, v, hv => by
    have ih := outI_bd l (i + 1) (by simp at h; omega)
    have hi : i64b (i : Int) := i64b_of (by omega) (by simp at h; omega)
    rw [outI] at hv
    split at hv
    · simp only [List.cons_append, List.nil_append, flatP, List.mem_cons] at hv
      rcases hv with rfl | rfl | hv
      · exact hi
      · unfold i64b; decide
      · exact ih v hv
    · split at hv
      · simp only [List.cons_append, List.nil_append, flatP, List.mem_cons] at hv
        rcases hv with rfl | rfl | hv
        · exact hi
        · unfold i64b; decide
        · exact ih v hv
      · exact ih v hv
theorem stuckF_bd (D : Int) (ts : List Tl) : ∀ v ∈ flatP (stuckF D ts).1, i64b v := by
  unfold stuckF
  split
  · intro v hv; cases hv
  · rename_i h
    split
    · intro v hv; cases hv
    · have hok : okTr D ts = true := by simpa using h
      have hD : 1 ≤ D ∧ D ≤ 4 := by
        unfold okTr at hok
        rw [Bool.and_eq_true] at hok
        exact inR_true.1 hok.1
      refine outI_bd _ 0 ?_
      rw [seenL_len]
      have : D.toNat = 1 ∨ D.toNat = 2 ∨ D.toNat = 3 ∨ D.toNat = 4 := by omega
      rcases this with e | e | e | e <;> rw [e] <;> decide
theorem notW {s : ByteArray} {l l' : List UInt8} (h : (s.toList == l) = true) (hne : (l == l') = false) : (s.toList == l') = false := by
  rw [eq_of_beq h]; exact hne
/-- The variables that the program's start lays stand where only later blocks turn. -/
theorem var_upB {w w' : World} {n : String} {cs : Array Value} {g B : Nat} (h : w.var? Tryz.prog n = some cs) (hg : Tryz.prog.globalNamed n = some g) (hB : g < B) (hb : Below B w w') : w'.var? Tryz.prog n = some cs := by
  unfold World.var? at h ⊢
  rw [hg] at h ⊢
  simp only [Option.bind_some] at h ⊢
  rw [hb.block g hB]
  exact h
theorem tabUpB {w w' : World} {B : Nat} (h : TabP w) (hB : 4 < B) (hb : Below B w w') : TabP w' := by
  have e : Tryz.prog.globalNamed "internal/strconv.uint64pow10" = some 4 := by kernel_rfl
  unfold TabP Lib.TabIs at h ⊢
  exact var_upB h e hB hb
theorem synUpB {w w' : World} {B : Nat} (h : SynP w) (hB : 4 < B) (hb : Below B w w') : SynP w' := by
  obtain ⟨tp, p, h⟩ := h
  have e : Tryz.prog.globalNamed "strconv.ErrSyntax" = some 2 := by kernel_rfl
  exact ⟨tp, p, var_upB h e (Nat.lt_trans (by decide) hB) hb⟩
theorem maxUpB {w w' : World} {B : Nat} {m : Int} (h : w.cell? ⟨1, 0, none⟩ = some (.int .i64 m)) (hB : 4 < B) (hb : Below B w w') : w'.cell? ⟨1, 0, none⟩ = some (.int .i64 m) :=
  (hb.cell (p := ⟨1, 0, none⟩) (Nat.lt_trans (show 1 < 4 by decide) hB)).trans h
theorem CnP.upB {w w' : World} {B : Nat} (h : CnP w) (hB : 4 < B) (hb : Below B w w') : CnP w' := fun i x hx =>
  (hb.cell (p := ⟨0, i, none⟩) (Nat.lt_trans (show 0 < 4 by decide) hB)).trans (h i x hx)
/-- What a command is handed. -/
structure ExIn (w : World) (lo g : Nat) (h : DkH) (d : Dk) (rh : List RnH) (WA : Option Addr) (wn : Nat) (ws : List ByteArray) (NA : Option Addr) (nn : Nat) (ns : List Int) (m : Int) : Prop where
  blk : Blk w g 32 #[.int .i64 d.net.sta, .slice h.A1 h.n1 h.c1, .slice h.A2 h.n2 h.c2, .slice h.A3 h.n3 h.c3, .string d.log]
  own : OwnD w lo w.heap.size h d rh
  gne : ∀ b, inD h rh b → b ≠ g
  glo : lo ≤ g
  small : DkS h d
  ok : okDk d = true
  wsr : Reads w lo 1 WA wn (strs ws)
  nsr : Reads w w.heap.size 1 NA nn (ints ns)
  wl : wn ≤ 1048577
  nl : nn ≤ 1048576
  wsz : ∀ x ∈ ws, x.size ≤ 1048576
  nsb : ∀ x ∈ ns, i64b x
  max : w.cell? ⟨1, 0, none⟩ = some (.int .i64 m)
  tab : TabP w
  syn : SynP w
  low : 4 < lo
/-- What a command leaves. -/
structure ExOut (w w' : World) (lo g : Nat) (h' : DkH) (d' : Dk) (rh' : List RnH) (LA : Option Addr) (ln lc : Nat) (lines : List ByteArray) : Prop where
  blk : Blk w' g 32 #[.int .i64 d'.net.sta, .slice h'.A1 h'.n1 h'.c1, .slice h'.A2 h'.n2 h'.c2, .slice h'.A3 h'.n3 h'.c3, .string d'.log]
  own : OwnD w' lo w'.heap.size h' d' rh'
  gne : ∀ b, inD h' rh' b → b ≠ g
  row : Sl w' lo w'.heap.size 9 1 LA ln lc (strs lines)
  lne : ∀ b, inB LA b → ¬ inD h' rh' b
  lng : ∀ b, inB LA b → b ≠ g
  bel : Below lo w w'
/-- The desk stands, lines lie in a new block. -/
theorem ExIn.out {w w' : World} {lo g : Nat} {h : DkH} {d : Dk} {rh : List RnH} {WA NA : Option Addr} {wn nn : Nat} {ws : List ByteArray} {ns : List Int} {m : Int} (x : ExIn w lo g h d rh WA wn ws NA nn ns m) (hb : Below w.heap.size w w') {LA : Option Addr} {ln lc : Nat} {lines : List ByteArray} (hs : Sl w' w.heap.size w'.heap.size 9 1 LA ln lc (strs lines)) : ExOut w w' lo g h d rh LA ln lc lines := by
  have hg := x.blk.lt
  have hl := x.glo
  have hlo : lo ≤ w.heap.size := by omega
  refine ⟨x.blk.on hb, (x.own.on hb).wide (Nat.le_refl _) hb.size, x.gne, hs.wide hlo (Nat.le_refl _), fun b hb' hd => ?_, fun b hb' e => ?_, hb.mono hlo⟩
  · have := hs.inB_lt hb'; have := x.own.inD_lt hd; omega
  · have := hs.inB_lt hb'; omega
theorem Sl.one9 {W : World} {lo : Nat} {s : ByteArray} (hb : lo ≤ W.heap.size) : Sl (W.alloc (.cells #[.string s] 9)) lo (W.alloc (.cells #[.string s] 9)).heap.size 9 1 (some ⟨W.heap.size, 0, none⟩) 1 1 (strs [s]) :=
  Sl.of_blk (xs := [.string s]) (Blk.new _ _ _) hb (by simp) rfl (by decide)
end Go.Proofs.YtjalgpioklcbfaaGreatDoor
