/- The lines of a text, carried out one after the other: plain. A command carried out, whatever its word: execute; what its words and numbers are. DeskCommand: what it leaves, and its plain cases. -/
import Derived.Test.YtjalgpioklcbfaaGreatDoorKCnR
import Derived.Test.YtjalgpioklcbfaaGreatDoorMgConsoleAR
set_option linter.unusedVariables false
set_option linter.unusedSimpArgs false
namespace Go.Proofs.YtjalgpioklcbfaaGreatDoor
open Go.RowKit Go.Lib

/-- One line more: the desk, and the lines that have been printed. -/
noncomputable def stepR (x : Dk × List ByteArray) (l : ByteArray) : Dk × List ByteArray := if (cmdF x.1 l).code ≠ 0 then (x.1, x.2 ++ [⟨#[63]⟩]) else ((cmdF x.1 l).dk, x.2 ++ (cmdF x.1 l).lines)
noncomputable def runTo (ls : List ByteArray) (k : Nat) : Dk × List ByteArray := (ls.take k).foldl stepR (desk0, [])
theorem runTo_zero (ls : List ByteArray) : runTo ls 0 = (desk0, []) := rfl
theorem runTo_step {ls : List ByteArray} {k : Nat} {l : ByteArray} (h : ls[k]? = some l) : runTo ls (k + 1) = stepR (runTo ls k) l := by
  unfold runTo
  rw [List.take_add_one, h, Option.toList_some, List.foldl_append]
  rfl
theorem runTo_bad {ls : List ByteArray} {k : Nat} {l : ByteArray} (h : ls[k]? = some l) (hc : (cmdF (runTo ls k).1 l).code ≠ 0) : runTo ls (k + 1) = ((runTo ls k).1, (runTo ls k).2 ++ [⟨#[63]⟩]) := by
  rw [runTo_step h, stepR, if_pos hc]
theorem runTo_good {ls : List ByteArray} {k : Nat} {l : ByteArray} (h : ls[k]? = some l) (hc : (cmdF (runTo ls k).1 l).code = 0) : runTo ls (k + 1) = ((cmdF (runTo ls k).1 l).dk, (runTo ls k).2 ++ (cmdF (runTo ls k).1 l).lines) := by
  rw [runTo_step h, stepR, if_neg (by rw [hc]; decide)]
theorem okDk_desk0 : okDk desk0 = true := by
  refine okDk_mk (by decide) (by decide) ?_
  have h : logR ⟨#[]⟩ = ⟨[], 0, 0⟩ := by unfold logR; exact logGo_miss (by simp)
  exact codeF_ok (by decide) (by rw [h]; rfl)
theorem runTo_ok {ls : List ByteArray} (hl : ∀ l ∈ ls, l.size ≤ 1048575) : ∀ k, okDk (runTo ls k).1 = true ∧ (runTo ls k).2.length ≤ 4002 * k ∧ ∀ x ∈ (runTo ls k).2, x.size ≤ 33554432
  | 0 => ⟨okDk_desk0, by simp [runTo_zero], fun x hx => by simp [runTo_zero] at hx⟩
  | k + 1 => by
    obtain ⟨h1, h2, h3⟩ := runTo_ok hl k
    cases e : ls[k]? with
    | none =>
      have : runTo ls (k + 1) = runTo ls k := by unfold runTo; rw [List.take_add_one, e, Option.toList_none, List.append_nil]
      rw [this]
      exact ⟨h1, by omega, h3⟩
    | some l =>
      obtain ⟨g1, g2, g3⟩ := cmdF_ok h1 l (hl l (List.mem_of_getElem? e))
      rcases g1 with g1 | g1
      · rw [runTo_good e g1]
        refine ⟨(g2 g1).1, ?_, fun x hx => ?_⟩
        · show ((runTo ls k).2 ++ (cmdF (runTo ls k).1 l).lines).length ≤ _
          have := g3.1
          rw [List.length_append]; omega
        · have hx : x ∈ (runTo ls k).2 ++ (cmdF (runTo ls k).1 l).lines := hx
          rw [List.mem_append] at hx
          rcases hx with hx | hx
          · exact h3 x hx
          · exact g3.2 x hx
      · rw [runTo_bad e (by rw [g1]; decide)]
        refine ⟨h1, ?_, fun x hx => ?_⟩
        · show ((runTo ls k).2 ++ [(⟨#[63]⟩ : ByteArray)]).length ≤ _
          rw [List.length_append, List.length_singleton]; omega
        · have hx : x ∈ (runTo ls k).2 ++ [(⟨#[63]⟩ : ByteArray)] := hx
          rw [List.mem_append, List.mem_singleton] at hx
          rcases hx with hx | rfl
          · exact h3 x hx
          · decide
/-- Lines, a newline behind each. -/
def catL : List ByteArray → ByteArray
  | [] => ⟨#[]⟩
  | x :: r => x ++ ⟨#[10]⟩ ++ catL r
theorem catL_append : ∀ a b : List ByteArray, catL (a ++ b) = catL a ++ catL b
  | [], b => by rw [List.nil_append, catL]; apply bytes_ext; rw [data_app]; simp
  | x :: r, b => by
    rw [List.cons_append, catL, catL, catL_append r b]
    apply bytes_ext
    simp only [data_app, List.append_assoc]
theorem catL_one (x : ByteArray) : catL [x] = x ++ ⟨#[10]⟩ := by
  rw [catL, catL]; apply bytes_ext; rw [data_app, data_app]; simp
theorem catL_snoc (a : List ByteArray) (x : ByteArray) : catL (a ++ [x]) = catL a ++ (x ++ ⟨#[10]⟩) := by rw [catL_append, catL_one]
theorem catL_step {ls : List ByteArray} {k : Nat} {x : ByteArray} (h : ls[k]? = some x) : catL (ls.take (k + 1)) = catL (ls.take k) ++ (x ++ ⟨#[10]⟩) := by
  rw [List.take_add_one, h, Option.toList_some, catL_snoc]
theorem catL_size (m : Nat) : ∀ {ls : List ByteArray}, (∀ x ∈ ls, x.size ≤ m) → (catL ls).size ≤ (m + 1) * ls.length
  | [], _ => Nat.zero_le _
  | x :: r, h => by
    have ih := catL_size m (ls := r) fun y hy => h y (List.mem_cons_of_mem _ hy)
    have hx := h x List.mem_cons_self
    rw [catL, ByteArray.size_append, ByteArray.size_append, List.length_cons, Nat.mul_add]
    show x.size + 1 + _ ≤ _
    omega
theorem catL_split : ∀ {ls : List ByteArray}, (∀ x ∈ ls, (10 : UInt8) ∉ x.data.toList) → splitS 10 (catL ls) = ls ++ [⟨#[]⟩]
  | [], _ => by
    rw [catL]
    rfl
  | x :: r, h => by
    have ih := catL_split (ls := r) fun y hy => h y (List.mem_cons_of_mem _ hy)
    have hx := h x List.mem_cons_self
    have e : (catL (x :: r)).data.toList = x.data.toList ++ 10 :: (catL r).data.toList := by
      rw [catL, data_app, data_app]; simp
    unfold splitS at ih ⊢
    rw [e, splitL_hit hx, List.map_cons, ih, asBytes_data]
    rfl
/-- The lines of a text: the empty one at the end left out. -/
def linesT (s : ByteArray) : List ByteArray := if (splitS 10 s).getLast? = some ⟨#[]⟩ then (splitS 10 s).take ((splitS 10 s).length - 1) else splitS 10 s
theorem linesT_cat {ls : List ByteArray} (h : ∀ x ∈ ls, (10 : UInt8) ∉ x.data.toList) : linesT (catL ls) = ls := by
  unfold linesT
  rw [catL_split h, if_pos (by simp)]
  rw [List.length_append, List.length_singleton, Nat.add_sub_cancel, List.take_left]
theorem splitS_sizes {c : UInt8} {s : ByteArray} : ∀ x ∈ splitS c s, x.size ≤ s.size := by
  have key : ∀ l : List UInt8, ∀ x ∈ splitL c l, x.length ≤ l.length := by
    intro l
    induction l with
    | nil => intro x hx; rw [splitL, List.mem_singleton] at hx; subst hx; exact Nat.le_refl _
    | cons a r ih =>
      intro x hx
      rw [splitL] at hx
      split at hx
      · rcases List.mem_cons.1 hx with rfl | hx
        · exact Nat.zero_le _
        · have := ih x hx; rw [List.length_cons]; omega
      · split at hx
        · rw [List.mem_singleton] at hx; subst hx; simp
        · rename_i y t he
          rcases List.mem_cons.1 hx with rfl | hx
          · have := ih y (by rw [he]; exact List.mem_cons_self)
            rw [List.length_cons, List.length_cons]; omega
          · have := ih x (by rw [he]; exact List.mem_cons_of_mem _ hx)
            rw [List.length_cons]; omega
  intro x hx
  unfold splitS at hx
  obtain ⟨l, hl, rfl⟩ := List.mem_map.1 hx
  have := key _ l hl
  rw [asBytes_size, ← data_len s]
  exact this
theorem linesT_sizes {s : ByteArray} : ∀ x ∈ linesT s, x.size ≤ s.size := by
  intro x hx
  unfold linesT at hx
  split at hx
  · exact splitS_sizes x (List.mem_of_mem_take hx)
  · exact splitS_sizes x hx
theorem linesT_len (s : ByteArray) : (linesT s).length ≤ s.size + 1 := by
  have hs := splitS_len 10 s
  have hcnt : s.data.toList.count 10 ≤ s.size := by rw [← data_len s]; exact List.count_le_length
  unfold linesT
  split
  · rw [List.length_take]; omega
  · omega
def errFull : ByteArray := ⟨#[101, 114, 114, 111, 114, 32, 102, 117, 108, 108]⟩
/-- All that a text prints. -/
noncomputable def outT (s : ByteArray) : List ByteArray := if (linesT s).length ≤ 60 then (runTo (linesT s) (linesT s).length).2 else (runTo (linesT s) 60).2 ++ [errFull]
noncomputable def runT (s : ByteArray) : ByteArray := catL (outT s)
theorem runT_cat {ls : List ByteArray} (h : ∀ x ∈ ls, (10 : UInt8) ∉ x.data.toList) (hl : ls.length ≤ 60) : runT (catL ls) = catL (runTo ls ls.length).2 := by
  unfold runT outT
  rw [linesT_cat h, if_pos hl]
end Go.Proofs.YtjalgpioklcbfaaGreatDoor
namespace Go.Proofs.YtjalgpioklcbfaaGreatDoor
open Go.RowKit Go.Lib

theorem deskW_lists : deskW.map (fun y => y.toList) = [[101, 110, 116, 101, 114], [102, 114, 101, 101], [108, 111, 103], [110, 101, 116], [113, 117, 101, 117, 101], [114, 117, 110], [114, 117, 110, 115], [115, 101, 97, 114, 99, 104], [115, 116, 117, 99, 107], [116, 105, 109, 101, 115], [119, 97, 121]] := by simp [deskW, ByteArray.toList_eq]
theorem deskW_cases {s : ByteArray} (h : hasW deskW s = true) : (s.toList == [101, 110, 116, 101, 114]) = true ∨ (s.toList == [102, 114, 101, 101]) = true ∨ (s.toList == [108, 111, 103]) = true ∨ (s.toList == [110, 101, 116]) = true ∨ (s.toList == [113, 117, 101, 117, 101]) = true ∨ (s.toList == [114, 117, 110]) = true ∨ (s.toList == [114, 117, 110, 115]) = true ∨ (s.toList == [115, 101, 97, 114, 99, 104]) = true ∨ (s.toList == [115, 116, 117, 99, 107]) = true ∨ (s.toList == [116, 105, 109, 101, 115]) = true ∨ (s.toList == [119, 97, 121]) = true := by
  unfold hasW at h
  have h2 : (deskW.map (fun y => y.toList)).any (fun y => s.toList == y) = true := by rw [List.any_map]; exact h
  rw [deskW_lists] at h2
  simpa only [List.any_cons, List.any_nil, Bool.or_false, Bool.or_eq_true] using h2
theorem shpNet {s : ByteArray} (hw : (s.toList == [110, 101, 116]) = true) : shp s = ⟨#[43]⟩ := by unfold shp; rw [if_pos hw]
theorem shpTimes {s : ByteArray} (hw : (s.toList == [116, 105, 109, 101, 115]) = true) : shp s = ⟨#[42]⟩ := by unfold shp; rw [if_neg (by rw [notW hw (by decide)]; decide), if_pos hw]
theorem shpQueue {s : ByteArray} (hw : (s.toList == [113, 117, 101, 117, 101]) = true) : shp s = ⟨#[42]⟩ := by unfold shp; rw [if_neg (by rw [notW hw (by decide)]; decide), if_neg (by rw [notW hw (by decide)]; decide), if_pos hw]
theorem shpWay {s : ByteArray} (hw : (s.toList == [119, 97, 121]) = true) : shp s = ⟨#[110, 110]⟩ := by unfold shp; rw [if_neg (by rw [notW hw (by decide)]; decide), if_neg (by rw [notW hw (by decide)]; decide), if_neg (by rw [notW hw (by decide)]; decide), if_pos hw]
theorem shpRun {s : ByteArray} (hw : (s.toList == [114, 117, 110]) = true) : shp s = ⟨#[110, 42]⟩ := by unfold shp; rw [if_neg (by rw [notW hw (by decide)]; decide), if_neg (by rw [notW hw (by decide)]; decide), if_neg (by rw [notW hw (by decide)]; decide), if_neg (by rw [notW hw (by decide)]; decide), if_pos hw]
theorem shpSearch {s : ByteArray} (hw : (s.toList == [115, 101, 97, 114, 99, 104]) = true) : shp s = ⟨#[110, 42]⟩ := by unfold shp; rw [if_neg (by rw [notW hw (by decide)]; decide), if_neg (by rw [notW hw (by decide)]; decide), if_neg (by rw [notW hw (by decide)]; decide), if_neg (by rw [notW hw (by decide)]; decide), if_neg (by rw [notW hw (by decide)]; decide), if_pos hw]
theorem shpStuck {s : ByteArray} (hw : (s.toList == [115, 116, 117, 99, 107]) = true) : shp s = ⟨#[110, 42]⟩ := by unfold shp; rw [if_neg (by rw [notW hw (by decide)]; decide), if_neg (by rw [notW hw (by decide)]; decide), if_neg (by rw [notW hw (by decide)]; decide), if_neg (by rw [notW hw (by decide)]; decide), if_neg (by rw [notW hw (by decide)]; decide), if_neg (by rw [notW hw (by decide)]; decide), if_pos hw]
theorem shpFree {s : ByteArray} (hw : (s.toList == [102, 114, 101, 101]) = true) : shp s = ⟨#[110, 110, 110]⟩ := by unfold shp; rw [if_neg (by rw [notW hw (by decide)]; decide), if_neg (by rw [notW hw (by decide)]; decide), if_neg (by rw [notW hw (by decide)]; decide), if_neg (by rw [notW hw (by decide)]; decide), if_neg (by rw [notW hw (by decide)]; decide), if_neg (by rw [notW hw (by decide)]; decide), if_neg (by rw [notW hw (by decide)]; decide), if_pos hw]
theorem shpEnter {s : ByteArray} (hw : (s.toList == [101, 110, 116, 101, 114]) = true) : shp s = ⟨#[110, 119, 110]⟩ := by unfold shp; rw [if_neg (by rw [notW hw (by decide)]; decide), if_neg (by rw [notW hw (by decide)]; decide), if_neg (by rw [notW hw (by decide)]; decide), if_neg (by rw [notW hw (by decide)]; decide), if_neg (by rw [notW hw (by decide)]; decide), if_neg (by rw [notW hw (by decide)]; decide), if_neg (by rw [notW hw (by decide)]; decide), if_neg (by rw [notW hw (by decide)]; decide), if_pos hw]
theorem shp_size (s : ByteArray) : (shp s).size ≤ 3 := by
  unfold shp
  repeat' (first | decide | split)
theorem numsF_n {sh : ByteArray} (hk : ∀ j, kindB sh j = 110 ∨ kindB sh j = 42) : ∀ (ws : List ByteArray) (i : Nat) (acc ns : List Int), numsF sh ws i acc = some ns → ns.length = acc.length + ws.length
  | [], i, acc, ns, h => by
    rw [numsF] at h
    injection h with h
    subst h
    simp
  | w :: r, i, acc, ns, h => by
    rw [numsF, if_pos (hk i)] at h
    split at h
    · have := numsF_n hk r (i + 1) _ ns h
      rw [List.length_append, List.length_singleton] at this
      rw [List.length_cons]; omega
    · cases h
theorem kind2 (a b : UInt8) (ha : a = 110 ∨ a = 42) (hb : b = 110 ∨ b = 42) (j : Nat) : kindB ⟨#[a, b]⟩ j = 110 ∨ kindB ⟨#[a, b]⟩ j = 42 := by
  show [a, b].getD (min j 1) 0 = 110 ∨ [a, b].getD (min j 1) 0 = 42
  rcases (by omega : min j 1 = 0 ∨ min j 1 = 1) with e | e <;> rw [e]
  · exact ha
  · exact hb
theorem kind3 (a b c : UInt8) (ha : a = 110 ∨ a = 42) (hb : b = 110 ∨ b = 42) (hc : c = 110 ∨ c = 42) (j : Nat) : kindB ⟨#[a, b, c]⟩ j = 110 ∨ kindB ⟨#[a, b, c]⟩ j = 42 := by
  show [a, b, c].getD (min j 2) 0 = 110 ∨ [a, b, c].getD (min j 2) 0 = 42
  rcases (by omega : min j 2 = 0 ∨ min j 2 = 1 ∨ min j 2 = 2) with e | e | e <;> rw [e]
  · exact ha
  · exact hb
  · exact hc
theorem numsEnter {a b c : ByteArray} {ns : List Int} (h : numsF ⟨#[110, 119, 110]⟩ [a, b, c] 0 [] = some ns) : ns.length = 2 := by
  rw [numsF, if_pos (by decide)] at h
  split at h
  · rw [numsF, if_neg (by decide), numsF, if_pos (by decide)] at h
    split at h
    · rw [numsF] at h
      injection h with h
      subst h
      rfl
    · cases h
  · cases h
theorem joinL_drop (c : UInt8) : ∀ l : List (List UInt8), (joinL c (l.drop 1)).length ≤ (joinL c l).length
  | [] => Nat.le_refl _
  | [x] => Nat.zero_le _
  | x :: y :: t => by
    show (joinL c (y :: t)).length ≤ (x ++ c :: joinL c (y :: t)).length
    rw [List.length_append, List.length_cons]; omega
theorem netJoin (line : ByteArray) : (joinL 32 (((splitS 32 line).drop 1).map fun s => s.data.toList)).length ≤ line.size := by
  have e : (splitS 32 line).map (fun s => s.data.toList) = splitL 32 line.data.toList := by
    unfold splitS
    rw [List.map_map]
    conv => rhs; rw [← List.map_id (splitL 32 line.data.toList)]
    refine List.map_congr_left fun x _ => ?_
    show (asBytes x).data.toList = x
    exact data_asBytes x
  rw [List.map_drop, e]
  refine Nat.le_trans (joinL_drop 32 _) ?_
  rw [joinL_splitL, data_len]
  exact Nat.le_refl _
/-- What the words and the numbers of a line that is carried out must be. -/
structure CmdOk (ws : List ByteArray) (ns : List Int) : Prop where
  has : hasW deskW (wordAt ws 0) = true
  fit : ¬ (ws.length < (shp (wordAt ws 0)).size + 1 ∨ (starB (shp (wordAt ws 0)) = false ∧ (shp (wordAt ws 0)).size + 1 < ws.length))
  num : numsF (shp (wordAt ws 0)) (ws.drop 1) 0 [] = some ns
  join : (joinL 32 ((ws.drop 1).map fun s => s.data.toList)).length ≤ 1048576
set_option maxHeartbeats 1000000 in
theorem exec_any {w : World} {lo g : Nat} {h : DkH} {d : Dk} {rh : List RnH} {WA NA : Option Addr} {wn nn : Nat} {ws : List ByteArray} {ns : List Int} {m : Int} (wc nc : Nat) (x : ExIn w lo g h d rh WA wn ws NA nn ns m) (h0 : 0 < wn) (hwc : wn ≤ wc) (hnc : nn ≤ nc) (k : CmdOk ws ns) :
    Calls Tryz.prog 36 #[.pointer (some ⟨g, 0, none⟩), .slice WA wn wc, .slice NA nn nc] w fun e w' => ∃ LA ln lc, e = .returned (.tuple #[.slice LA ln lc, .int .i64 (execF d ws ns).code]) ∧ ∃ h' rh', ExOut w w' lo g h' (execF d ws ns).dk rh' LA ln lc (execF d ws ns).lines := by
  have hwn : ws.length = wn := by have := x.wsr.1; rw [strs_length] at this; omega
  have hnn := ints_len x.nsr
  have hd : (ws.drop 1).length = wn - 1 := by rw [List.length_drop, hwn]
  rcases deskW_cases k.has with hw | hw | hw | hw | hw | hw | hw | hw | hw | hw | hw
  · have e := shpEnter hw
    have hf := k.fit
    have hm := k.num
    rw [e] at hf hm
    have hs : (⟨#[110, 119, 110]⟩ : ByteArray).size = 3 := rfl
    rw [hs, hwn] at hf
    have hst : starB ⟨#[110, 119, 110]⟩ = false := by decide
    rw [hst] at hf
    have hw4 : wn = 4 := by simp at hf; omega
    obtain ⟨a, b, c, hl⟩ : ∃ a b c, ws.drop 1 = [a, b, c] := by
      match hq : ws.drop 1, (show (ws.drop 1).length = 3 by omega) with
      | [a, b, c], _ => exact ⟨a, b, c, rfl⟩
    rw [hl] at hm
    have := numsEnter hm
    exact execEnter_any wc nc x h0 hw (by omega) (by omega)
  · have e := shpFree hw
    have hf := k.fit
    have hm := k.num
    rw [e] at hf hm
    have hs : (⟨#[110, 110, 110]⟩ : ByteArray).size = 3 := rfl
    rw [hs, hwn] at hf
    have hst : starB ⟨#[110, 110, 110]⟩ = false := by decide
    rw [hst] at hf
    have hw4 : wn = 4 := by simp at hf; omega
    have hq := numsF_n (sh := ⟨#[110, 110, 110]⟩) (kind3 110 110 110 (.inl rfl) (.inl rfl) (.inl rfl)) _ _ _ _ hm
    rw [hd, List.length_nil] at hq
    exact execFree_any wc nc x h0 hw (by omega)
  · exact execLog_any wc nc x h0 hw
  · have e := shpNet hw
    have hf := k.fit
    have hm := k.num
    rw [e] at hf hm
    have hs : (⟨#[43]⟩ : ByteArray).size = 1 := rfl
    rw [hs, hwn] at hf
    have hw4 : 2 ≤ wn := by simp at hf; omega
    exact execNet_any wc nc x h0 hw hwc (by omega) k.join
  · have e := shpQueue hw
    have hf := k.fit
    have hm := k.num
    rw [e] at hf hm
    have hs : (⟨#[42]⟩ : ByteArray).size = 1 := rfl
    rw [hs, hwn] at hf
    have hw4 : 2 ≤ wn := by simp at hf; omega
    exact execQueue_any wc nc x h0 hw
  · have e := shpRun hw
    have hf := k.fit
    have hm := k.num
    rw [e] at hf hm
    have hs : (⟨#[110, 42]⟩ : ByteArray).size = 2 := rfl
    rw [hs, hwn] at hf
    have hw4 : 3 ≤ wn := by simp at hf; omega
    have hq := numsF_n (sh := ⟨#[110, 42]⟩) (kind2 110 42 (.inl rfl) (.inr rfl)) _ _ _ _ hm
    rw [hd, List.length_nil] at hq
    exact execRun_any wc nc x h0 hw (by omega) hnc
  · exact execRuns_any wc nc x h0 hw
  · have e := shpSearch hw
    have hf := k.fit
    have hm := k.num
    rw [e] at hf hm
    have hs : (⟨#[110, 42]⟩ : ByteArray).size = 2 := rfl
    rw [hs, hwn] at hf
    have hw4 : 3 ≤ wn := by simp at hf; omega
    have hq := numsF_n (sh := ⟨#[110, 42]⟩) (kind2 110 42 (.inl rfl) (.inr rfl)) _ _ _ _ hm
    rw [hd, List.length_nil] at hq
    exact execSearch_any wc nc x h0 hw (by omega) hnc
  · have e := shpStuck hw
    have hf := k.fit
    have hm := k.num
    rw [e] at hf hm
    have hs : (⟨#[110, 42]⟩ : ByteArray).size = 2 := rfl
    rw [hs, hwn] at hf
    have hw4 : 3 ≤ wn := by simp at hf; omega
    have hq := numsF_n (sh := ⟨#[110, 42]⟩) (kind2 110 42 (.inl rfl) (.inr rfl)) _ _ _ _ hm
    rw [hd, List.length_nil] at hq
    exact execStuck_any wc nc x h0 hw (by omega)
  · have e := shpTimes hw
    have hf := k.fit
    have hm := k.num
    rw [e] at hf hm
    have hs : (⟨#[42]⟩ : ByteArray).size = 1 := rfl
    rw [hs, hwn] at hf
    have hw4 : 2 ≤ wn := by simp at hf; omega
    exact execTimes_any wc nc x h0 hw
  · have e := shpWay hw
    have hf := k.fit
    have hm := k.num
    rw [e] at hf hm
    have hs : (⟨#[110, 110]⟩ : ByteArray).size = 2 := rfl
    rw [hs, hwn] at hf
    have hst : starB ⟨#[110, 110]⟩ = false := by decide
    rw [hst] at hf
    have hw4 : wn = 3 := by simp at hf; omega
    have hq := numsF_n (sh := ⟨#[110, 110]⟩) (kind2 110 110 (.inl rfl) (.inl rfl)) _ _ _ _ hm
    rw [hd, List.length_nil] at hq
    exact execWay_any wc nc x h0 hw (by omega)
end Go.Proofs.YtjalgpioklcbfaaGreatDoor
namespace Go.Proofs.YtjalgpioklcbfaaGreatDoor
open Go.RowKit Go.Lib

theorem okDk_ways {d : Dk} (h : okDk d = true) : ∀ r ∈ d.runs, 1 ≤ r.way.length ∧ r.way.length ≤ 1048576 := by
  intro r hr
  obtain ⟨k, hk, he⟩ := List.getElem_of_mem hr
  have hq := okRuns_at (okDk_parts h).2.1 (k := k) (r := r) (by rw [List.getElem?_eq_getElem hk, he])
  have hw := okWay_mem hq.1
  omega
/-- What DeskCommand leaves. -/
structure CmdOut (w w' : World) (h' : DkH) (d' : Dk) (rh' : List RnH) (LA : Option Addr) (ln lc : Nat) (lines : List ByteArray) : Prop where
  own : OwnD w' w.heap.size w'.heap.size h' d' rh'
  row : Sl w' w.heap.size w'.heap.size 9 1 LA ln lc (strs lines)
  lne : ∀ b, inB LA b → ¬ inD h' rh' b
  bel : Below w.heap.size w w'
theorem Sl.cap_ge {w : World} {lo hi size n c : Nat} {t : TypeId} {A : Option Addr} {xs : List Value} (h : Sl w lo hi t size A n c xs) : n ≤ c := by
  rcases h.form with ⟨_, h1, h2⟩ | ⟨g, cur, _, _, _, _, hc, _⟩ <;> omega
theorem Sl.plainA {w : World} {lo hi size n c : Nat} {t : TypeId} {A : Option Addr} {xs : List Value} (h : Sl w lo hi t size A n c xs) : PlainA A := by
  intro ad had
  rcases h.form with ⟨h0, _⟩ | ⟨g, cur, hg, _⟩
  · rw [h0] at had; cases had
  · rw [hg] at had; injection had with had; subst had; rfl
theorem OwnD.nil9 (w : World) (lo hi : Nat) : OwnD w lo hi ⟨none, 0, 0, none, 0, 0, none, 0, 0⟩ dk00 [] :=
  ⟨Sl.nil _ _ _ _ _, Sl.nil _ _ _ _ _, OwnR.nil _ _ _, fun b hb => absurd hb inB_nil, fun b hb => absurd hb inB_nil, fun b hb => absurd hb inB_nil⟩
theorem cmdDone {w v V : World} {lo : Nat} {h' : DkH} {d' : Dk} {rh' : List RnH} {LA : Option Addr} {ln lc : Nat} {lines : List ByteArray} (b : Below w.heap.size w v) (hO : Only (w.heap.size + 1) (w.heap.size + 1 + 1) v V) (hlo : w.heap.size + 1 + 1 ≤ lo) (o : OwnD v lo v.heap.size h' d' rh') (s : Sl v lo v.heap.size 9 1 LA ln lc (strs lines)) (ne : ∀ b, inB LA b → ¬ inD h' rh' b) : CmdOut w V h' d' rh' LA ln lc lines := by
  have hz := hO.size
  have hb := b.size
  refine ⟨?_, (s.apart hO (.inr hlo)).wide (by omega) hz, ne, ?_⟩
  · exact (o.off (S := fun b => b = w.heap.size + 1) ⟨hO.os, hO.tape, hO.output, hO.size, fun k hk hn => hO.block k hk (by omega)⟩ (fun b hb e => by have := (o.inD_lt hb).1; omega)).wide (by omega) hz
  · exact b.trans (hO.below (by omega) hb)
theorem inB_some {g b : Nat} (h : inB (some (⟨g, 0, none⟩ : Addr)) b) : b = g := by
  obtain ⟨ad, e1, e2⟩ := h
  injection e1 with e1
  subst e1
  exact e2.symm
theorem cmdDone1 {w v V : World} {lo : Nat} {h' : DkH} {d' : Dk} {rh' : List RnH} {s : ByteArray} (b : Below w.heap.size w v) (hO : Only (w.heap.size + 1) (w.heap.size + 1 + 1) (v.alloc (.cells #[.string s] 9)) V) (hlo : w.heap.size + 1 + 1 ≤ lo) (hv : lo ≤ v.heap.size) (o : OwnD v lo v.heap.size h' d' rh') : CmdOut w V h' d' rh' (some ⟨v.heap.size, 0, none⟩) 1 1 [s] := by
  have a : Below v.heap.size v (v.alloc (.cells #[.string s] 9)) := (Below.refl _ _).alloc (Nat.le_refl _) _
  exact cmdDone (bnext b a (Nat.le_refl _)) hO hlo ((o.on a).wide (Nat.le_refl _) a.size) (Sl.one9 hv) fun c hc hd => by have := inB_some hc; have := (o.inD_lt hd).2; omega
theorem cmdDone2 {w v V : World} {lo : Nat} {h' : DkH} {d' : Dk} {rh' : List RnH} {s : ByteArray} (b : Below w.heap.size w v) (hO : Only (w.heap.size + 1) (w.heap.size + 1 + 1) v V) (hlo : w.heap.size + 1 + 1 ≤ lo) (o : OwnD v lo v.heap.size h' d' rh') : CmdOut w (V.alloc (.cells #[.string s] 9)) h' d' rh' (some ⟨V.heap.size, 0, none⟩) 1 1 [s] := by
  have k := cmdDone (LA := none) (ln := 0) (lc := 0) (lines := []) b hO hlo o (Sl.nil _ _ _ _ _) fun c hc => absurd hc inB_nil
  have a : Below V.heap.size V (V.alloc (.cells #[.string s] 9)) := (Below.refl _ _).alloc (Nat.le_refl _) _
  have hz := k.bel.size
  exact ⟨(k.own.on a).wide (Nat.le_refl _) a.size, Sl.one9 hz, fun c hc hd => by have := inB_some hc; have := (k.own.inD_lt hd).2; omega, bnext k.bel a (Nat.le_refl _)⟩
theorem okDk_S {w : World} {lo hi : Nat} {h : DkH} {d : Dk} {rh : List RnH} (o : OwnD w lo hi h d rh) (ok : okDk d = true) : DkS h d := by
  obtain ⟨h1, h2, h3⟩ := o.sizes
  obtain ⟨k1, k2, k3⟩ := okDk_parts ok
  have g1 := (okNt_small k1).2.1
  have g2 := okTimes_len (okRuns_times k2)
  have g3 := okRuns_len k2
  exact ⟨by omega, by omega, by omega, fun k r hk => (okDk_ways ok r (List.mem_of_getElem? hk)).2, by have := (codeF_zero k3).1; omega⟩
theorem codeName7 (w : World) (h : CnP w) : Calls Tryz.prog 35 #[.int .i64 7] w fun e w' => e = .returned (.string (cnm.getD 7 ⟨#[]⟩)) ∧ w' = w := codeName_any 7 (by decide) w h
theorem cmdNil {w v V : World} (b : Below w.heap.size w v) (hO : Only (w.heap.size + 1) (w.heap.size + 1 + 1) v V) : CmdOut w V ⟨none, 0, 0, none, 0, 0, none, 0, 0⟩ dk00 [] none 0 0 [] :=
  cmdDone b hO (Nat.le_refl _) (OwnD.nil9 _ _ _) (Sl.nil _ _ _ _ _) fun b hb => absurd hb inB_nil
theorem cmdF_bad {d : Dk} {line : ByteArray} (h : okDk d = false) : cmdF d line = ⟨dk00, [], 1⟩ := by
  unfold cmdF; simp only; rw [if_pos h]
section
variable {d : Dk} {line s0 sh : ByteArray} {ws : List ByteArray} {ns : List Int}
theorem cmdF_word (h : okDk d = true) (hws : splitS 32 line = ws) (h0 : wordAt ws 0 = s0) (hh : hasW deskW s0 = false) : cmdF d line = ⟨dk00, [], 7⟩ := by
  subst hws h0
  unfold cmdF; simp only; rw [if_neg (by rw [h]; decide), if_pos hh]
theorem cmdF_fit (h : okDk d = true) (hws : splitS 32 line = ws) (h0 : wordAt ws 0 = s0) (hsh : shp s0 = sh) (hh : hasW deskW s0 = true) (hf : ws.length < sh.size + 1 ∨ (starB sh = false ∧ sh.size + 1 < ws.length)) : cmdF d line = ⟨dk00, [], 7⟩ := by
  subst hws h0 hsh
  unfold cmdF; simp only; rw [if_neg (by rw [h]; decide), if_neg (by rw [hh]; decide), if_pos hf]
theorem cmdF_num (h : okDk d = true) (hws : splitS 32 line = ws) (h0 : wordAt ws 0 = s0) (hsh : shp s0 = sh) (hh : hasW deskW s0 = true) (hf : ¬ (ws.length < sh.size + 1 ∨ (starB sh = false ∧ sh.size + 1 < ws.length))) (hn : numsF sh (ws.drop 1) 0 [] = none) : cmdF d line = ⟨d, [errL 7], 0⟩ := by
  subst hws h0 hsh
  unfold cmdF; simp only; rw [if_neg (by rw [h]; decide), if_neg (by rw [hh]; decide), if_neg hf, hn]
theorem cmdF_err (h : okDk d = true) (hws : splitS 32 line = ws) (h0 : wordAt ws 0 = s0) (hsh : shp s0 = sh) (hh : hasW deskW s0 = true) (hf : ¬ (ws.length < sh.size + 1 ∨ (starB sh = false ∧ sh.size + 1 < ws.length))) (hn : numsF sh (ws.drop 1) 0 [] = some ns) (hc : (execF d ws ns).code ≠ 0) : cmdF d line = ⟨d, [errL (execF d ws ns).code.toNat], 0⟩ := by
  subst hws h0 hsh
  unfold cmdF; simp only; rw [if_neg (by rw [h]; decide), if_neg (by rw [hh]; decide), if_neg hf, hn]; simp only; rw [if_pos hc]
theorem cmdF_yes (h : okDk d = true) (hws : splitS 32 line = ws) (h0 : wordAt ws 0 = s0) (hsh : shp s0 = sh) (hh : hasW deskW s0 = true) (hf : ¬ (ws.length < sh.size + 1 ∨ (starB sh = false ∧ sh.size + 1 < ws.length))) (hn : numsF sh (ws.drop 1) 0 [] = some ns) (hc : (execF d ws ns).code = 0) : cmdF d line = execF d ws ns := by
  subst hws h0 hsh
  unfold cmdF; simp only; rw [if_neg (by rw [h]; decide), if_neg (by rw [hh]; decide), if_neg hf, hn]; simp only; rw [if_neg (by rw [hc]; decide)]
theorem cmdOk_mk (hws : splitS 32 line = ws) (h0 : wordAt ws 0 = s0) (hsh : shp s0 = sh) (hh : hasW deskW s0 = true) (hf : ¬ (ws.length < sh.size + 1 ∨ (starB sh = false ∧ sh.size + 1 < ws.length))) (hn : numsF sh (ws.drop 1) 0 [] = some ns) (hl : line.size ≤ 1048575) : CmdOk ws ns := by
  subst hws h0 hsh
  exact ⟨hh, hf, hn, Nat.le_trans (netJoin line) (by omega)⟩
end
theorem suf1 (l : List UInt8) (c : UInt8) : Lib.hasSuffix l [c] = (l.getLast? == some c) := by
  unfold Lib.hasSuffix
  rw [Bool.eq_iff_iff, List.isSuffixOf_iff_suffix, beq_iff_eq]
  constructor
  · rintro ⟨t, rfl⟩
    simp
  · intro h
    obtain ⟨ys, h⟩ := List.getLast?_eq_some_iff.1 h
    exact ⟨ys, h.symm⟩
theorem starB_suf (sh : ByteArray) : starB sh = (Lib.hasSuffix sh.data.toList [43] || Lib.hasSuffix sh.data.toList [42]) := by
  rw [suf1, suf1]; rfl
theorem starB_pos {sh : ByteArray} (h : starB sh = true) : 0 < sh.size := by
  rcases Nat.eq_zero_or_pos sh.size with h0 | h0
  · have : sh.data.toList = [] := List.eq_nil_of_length_eq_zero (by rw [data_len]; exact h0)
    unfold starB at h
    rw [this] at h
    cases h
  · exact h0
theorem kindB_at {sh : ByteArray} {k q : Nat} (hq : min k (sh.size - 1) = q) (hl : q < sh.size) : kindB sh k = sh[q] := by
  subst hq
  unfold kindB
  rw [List.getD_eq_getElem?_getD, List.getElem?_eq_getElem (by rw [data_len]; exact hl)]
  rfl
theorem words_len (line : ByteArray) : (splitS 32 line).length ≤ line.size + 1 := by
  have h1 := splitS_len 32 line
  have h2 : line.data.toList.count 32 ≤ line.size := by rw [← data_len line]; exact List.count_le_length
  omega
end Go.Proofs.YtjalgpioklcbfaaGreatDoor
