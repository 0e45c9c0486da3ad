/- The engine's words for the program's types: plain structures, their rows of cells, what every argument keeps, and their sizes; conditions: none. -/
import Derived.Test.YtjnhclnnobejgaaEq
namespace Go.Proofs.YtjnhclnnobejgaaE
set_option linter.unusedVariables false

/-- A whole number of 64 bits. -/
def i64r (n : Int) : Prop := -9223372036854775808 ≤ n ∧ n ≤ 9223372036854775807
def okB (_ : Bool) : Prop := True
def okS (s : ByteArray) : Prop := s.size ≤ 9223372036854775807
def okL {α : Type} (ok : α → Prop) (l : List α) : Prop := l.length ≤ 9223372036854775807 ∧ ∀ x ∈ l, ok x
def rI (n : Int) : List D := [dI n]
def rB (b : Bool) : List D := [dB b]
def rS (s : ByteArray) : List D := [dS s]
def rL {α : Type} (f : α → List D) (l : List α) : List D := [.arr (l.map f)]
def totL {α : Type} (f : α → Nat) (l : List α) : Nat := l.length + (l.map f).sum
/-- What a count of sizes leaves. -/
def szr (t : Nat) (left : Int) : Int := if (t : Int) ≤ left then left - t else -1
theorem szr_pos {t : Nat} {left : Int} (h : (t : Int) ≤ left) : szr t left = left - t := if_pos h
theorem szr_neg {t : Nat} {left : Int} (h : ¬ (t : Int) ≤ left) : szr t left = -1 := if_neg h
theorem OkD_struct (fs : List Ty) (ds : List D) : OkD (.struct fs) ds = OkS fs ds := by rw [OkD]
theorem of_I {ds : List D} (h : OkD (.int .i64) ds) : ∃ x, ds = rI x ∧ i64r x := by
  rw [OkD] at h
  obtain ⟨n, rfl, hw⟩ := h
  refine ⟨n, rfl, ?_⟩
  simp only [Lit.wf, Bool.and_eq_true, decide_eq_true_eq] at hw
  exact ⟨hw.1, hw.2⟩
theorem of_B {ds : List D} (h : OkD .bool ds) : ∃ x, ds = rB x ∧ okB x := by
  rw [OkD] at h
  obtain ⟨n, rfl⟩ := h
  exact ⟨n, rfl, trivial⟩
theorem of_S {ds : List D} (h : OkD .str ds) : ∃ x, ds = rS x ∧ okS x := by
  rw [OkD] at h
  obtain ⟨n, rfl, h⟩ := h
  exact ⟨n, rfl, h⟩
theorem rows_of {α : Type} (f : α → List D) (ok : α → Prop) : ∀ (rows : List (List D)), (∀ r ∈ rows, ∃ a, r = f a ∧ ok a) → ∃ l : List α, rows = l.map f ∧ ∀ x ∈ l, ok x
  | [], _ => ⟨[], rfl, fun x h => by simp at h⟩
  | r :: rows, h => by
    obtain ⟨a, ha, hk⟩ := h r (by simp)
    obtain ⟨l, hl, hk2⟩ := rows_of f ok rows (fun r hr => h r (by simp [hr]))
    refine ⟨a :: l, by rw [ha, hl]; rfl, fun x hx => ?_⟩
    rcases List.mem_cons.mp hx with rfl | hx
    · exact hk
    · exact hk2 x hx
theorem of_L {α : Type} {e : Ty} {f : α → List D} {ok : α → Prop} (he : ∀ ds, OkD e ds → ∃ x, ds = f x ∧ ok x) {ds : List D} (h : OkD (.slice e) ds) : ∃ x : List α, ds = rL f x ∧ okL ok x := by
  rw [OkD] at h
  obtain ⟨rows, rfl, hl, hr⟩ := h
  obtain ⟨l, rfl, hk⟩ := rows_of f ok rows (fun r hr' => he r (hr r hr'))
  exact ⟨l, rfl, by simpa [maxLen] using hl, hk⟩
theorem tot_get {α : Type} (f : α → Nat) (l : List α) (i : Nat) (h : i < l.length) : f l[i] ≤ totL f l := by
  have h1 := sum_take_succ f l i h
  have h2 := sum_take_le f l (i + 1)
  unfold totL
  omega
theorem tot_len {α : Type} (f : α → Nat) (l : List α) : l.length ≤ totL f l := by unfold totL; omega
theorem rI_len : ∀ x, (rI x).length = 1 := fun _ => rfl
theorem rB_len : ∀ x, (rB x).length = 1 := fun _ => rfl

structure Geometry where
  Dies : Int
  Blocks : Int
  Pages : Int
def rGeometry (x : Geometry) : List D := [dI x.Dies, dI x.Blocks, dI x.Pages]
def okGeometry (x : Geometry) : Prop := i64r x.Dies ∧ i64r x.Blocks ∧ i64r x.Pages
def totGeometry (x : Geometry) : Nat := 0
def tyGeometry : Ty := .struct [.int .i64, .int .i64, .int .i64]
theorem of_Geometry {ds : List D} (h : OkD tyGeometry ds) : ∃ x, ds = rGeometry x ∧ okGeometry x := by
  simp only [tyGeometry, OkD_struct, OkS] at h
  obtain ⟨_, _, rfl, h0, _, _, rfl, h1, _, _, rfl, h2, rfl⟩ := h
  obtain ⟨x0, rfl, k0⟩ := of_I h0
  obtain ⟨x1, rfl, k1⟩ := of_I h1
  obtain ⟨x2, rfl, k2⟩ := of_I h2
  exact ⟨⟨x0, x1, x2⟩, rfl, ⟨k0, k1, k2⟩⟩
abbrev vGeometry (x : Geometry) : V := .agg (mapO .d (rGeometry x))

structure Block where
  Erases : Int
  Next : Int
  Bad : Bool
  Pages : List ByteArray
def rBlock (x : Block) : List D := [dI x.Erases, dI x.Next, dB x.Bad, .arr (x.Pages.map rS)]
def okBlock (x : Block) : Prop := i64r x.Erases ∧ i64r x.Next ∧ (okL okS) x.Pages
def totBlock (x : Block) : Nat := (totL ByteArray.size) x.Pages
def tyBlock : Ty := .struct [.int .i64, .int .i64, .bool, .slice .str]
theorem of_Block {ds : List D} (h : OkD tyBlock ds) : ∃ x, ds = rBlock x ∧ okBlock x := by
  simp only [tyBlock, OkD_struct, OkS] at h
  obtain ⟨_, _, rfl, h0, _, _, rfl, h1, _, _, rfl, h2, _, _, rfl, h3, rfl⟩ := h
  obtain ⟨x0, rfl, k0⟩ := of_I h0
  obtain ⟨x1, rfl, k1⟩ := of_I h1
  obtain ⟨x2, rfl, k2⟩ := of_B h2
  obtain ⟨x3, rfl, k3⟩ := (of_L (f := rS) (ok := okS) (fun _ h => of_S h)) h3
  exact ⟨⟨x0, x1, x2, x3⟩, rfl, ⟨k0, k1, k3⟩⟩
abbrev vBlock (x : Block) : V := .agg (mapO .d (rBlock x))

structure Flash where
  Geo : Geometry
  Blocks : List Block
  Fuse : Int
  Keep : Int
  Off : Bool
  Ops : Int
def rFlash (x : Flash) : List D := [dI x.Geo.Dies, dI x.Geo.Blocks, dI x.Geo.Pages, .arr (x.Blocks.map rBlock), dI x.Fuse, dI x.Keep, dB x.Off, dI x.Ops]
def okFlash (x : Flash) : Prop := okGeometry x.Geo ∧ (okL okBlock) x.Blocks ∧ i64r x.Fuse ∧ i64r x.Keep ∧ i64r x.Ops
def totFlash (x : Flash) : Nat := (totL totBlock) x.Blocks
def tyFlash : Ty := .struct [tyGeometry, .slice tyBlock, .int .i64, .int .i64, .bool, .int .i64]
theorem of_Flash {ds : List D} (h : OkD tyFlash ds) : ∃ x, ds = rFlash x ∧ okFlash x := by
  simp only [tyFlash, OkD_struct, OkS] at h
  obtain ⟨_, _, rfl, h0, _, _, rfl, h1, _, _, rfl, h2, _, _, rfl, h3, _, _, rfl, h4, _, _, rfl, h5, rfl⟩ := h
  obtain ⟨x0, rfl, k0⟩ := of_Geometry h0
  obtain ⟨x1, rfl, k1⟩ := (of_L (f := rBlock) (ok := okBlock) (fun _ h => of_Block h)) h1
  obtain ⟨x2, rfl, k2⟩ := of_I h2
  obtain ⟨x3, rfl, k3⟩ := of_I h3
  obtain ⟨x4, rfl, k4⟩ := of_B h4
  obtain ⟨x5, rfl, k5⟩ := of_I h5
  exact ⟨⟨x0, x1, x2, x3, x4, x5⟩, rfl, ⟨k0, k1, k2, k3, k5⟩⟩
abbrev vFlash (x : Flash) : V := .agg (mapO .d (rFlash x))

structure BadTable where
  Geo : Geometry
  Spare : Int
  Bad : List Int
  Remap : List Int
def rBadTable (x : BadTable) : List D := [dI x.Geo.Dies, dI x.Geo.Blocks, dI x.Geo.Pages, dI x.Spare, .arr (x.Bad.map rI), .arr (x.Remap.map rI)]
def okBadTable (x : BadTable) : Prop := okGeometry x.Geo ∧ i64r x.Spare ∧ (okL i64r) x.Bad ∧ (okL i64r) x.Remap
def totBadTable (x : BadTable) : Nat := List.length x.Bad + List.length x.Remap
def tyBadTable : Ty := .struct [tyGeometry, .int .i64, .slice (.int .i64), .slice (.int .i64)]
theorem of_BadTable {ds : List D} (h : OkD tyBadTable ds) : ∃ x, ds = rBadTable x ∧ okBadTable x := by
  simp only [tyBadTable, OkD_struct, OkS] at h
  obtain ⟨_, _, rfl, h0, _, _, rfl, h1, _, _, rfl, h2, _, _, rfl, h3, rfl⟩ := h
  obtain ⟨x0, rfl, k0⟩ := of_Geometry h0
  obtain ⟨x1, rfl, k1⟩ := of_I h1
  obtain ⟨x2, rfl, k2⟩ := (of_L (f := rI) (ok := i64r) (fun _ h => of_I h)) h2
  obtain ⟨x3, rfl, k3⟩ := (of_L (f := rI) (ok := i64r) (fun _ h => of_I h)) h3
  exact ⟨⟨x0, x1, x2, x3⟩, rfl, ⟨k0, k1, k2, k3⟩⟩
abbrev vBadTable (x : BadTable) : V := .agg (mapO .d (rBadTable x))

structure Fault where
  Kind : Int
  Block : Int
  Page : Int
  Bit : Int
def rFault (x : Fault) : List D := [dI x.Kind, dI x.Block, dI x.Page, dI x.Bit]
def okFault (x : Fault) : Prop := i64r x.Kind ∧ i64r x.Block ∧ i64r x.Page ∧ i64r x.Bit
def totFault (x : Fault) : Nat := 0
def tyFault : Ty := .struct [.int .i64, .int .i64, .int .i64, .int .i64]
theorem of_Fault {ds : List D} (h : OkD tyFault ds) : ∃ x, ds = rFault x ∧ okFault x := by
  simp only [tyFault, OkD_struct, OkS] at h
  obtain ⟨_, _, rfl, h0, _, _, rfl, h1, _, _, rfl, h2, _, _, rfl, h3, rfl⟩ := h
  obtain ⟨x0, rfl, k0⟩ := of_I h0
  obtain ⟨x1, rfl, k1⟩ := of_I h1
  obtain ⟨x2, rfl, k2⟩ := of_I h2
  obtain ⟨x3, rfl, k3⟩ := of_I h3
  exact ⟨⟨x0, x1, x2, x3⟩, rfl, ⟨k0, k1, k2, k3⟩⟩
abbrev vFault (x : Fault) : V := .agg (mapO .d (rFault x))

structure PageMap where
  Blocks : Int
  Pages : Int
  Map : List Int
  Trimmed : List Bool
def rPageMap (x : PageMap) : List D := [dI x.Blocks, dI x.Pages, .arr (x.Map.map rI), .arr (x.Trimmed.map rB)]
def okPageMap (x : PageMap) : Prop := i64r x.Blocks ∧ i64r x.Pages ∧ (okL i64r) x.Map ∧ (okL okB) x.Trimmed
def totPageMap (x : PageMap) : Nat := List.length x.Map + List.length x.Trimmed
def tyPageMap : Ty := .struct [.int .i64, .int .i64, .slice (.int .i64), .slice .bool]
theorem of_PageMap {ds : List D} (h : OkD tyPageMap ds) : ∃ x, ds = rPageMap x ∧ okPageMap x := by
  simp only [tyPageMap, OkD_struct, OkS] at h
  obtain ⟨_, _, rfl, h0, _, _, rfl, h1, _, _, rfl, h2, _, _, rfl, h3, rfl⟩ := h
  obtain ⟨x0, rfl, k0⟩ := of_I h0
  obtain ⟨x1, rfl, k1⟩ := of_I h1
  obtain ⟨x2, rfl, k2⟩ := (of_L (f := rI) (ok := i64r) (fun _ h => of_I h)) h2
  obtain ⟨x3, rfl, k3⟩ := (of_L (f := rB) (ok := okB) (fun _ h => of_B h)) h3
  exact ⟨⟨x0, x1, x2, x3⟩, rfl, ⟨k0, k1, k2, k3⟩⟩
abbrev vPageMap (x : PageMap) : V := .agg (mapO .d (rPageMap x))

structure PageMeta where
  Kind : Int
  Logical : Int
  Seq : Int
  First : Int
  Count : Int
def rPageMeta (x : PageMeta) : List D := [dI x.Kind, dI x.Logical, dI x.Seq, dI x.First, dI x.Count]
def okPageMeta (x : PageMeta) : Prop := i64r x.Kind ∧ i64r x.Logical ∧ i64r x.Seq ∧ i64r x.First ∧ i64r x.Count
def totPageMeta (x : PageMeta) : Nat := 0
def tyPageMeta : Ty := .struct [.int .i64, .int .i64, .int .i64, .int .i64, .int .i64]
theorem of_PageMeta {ds : List D} (h : OkD tyPageMeta ds) : ∃ x, ds = rPageMeta x ∧ okPageMeta x := by
  simp only [tyPageMeta, OkD_struct, OkS] at h
  obtain ⟨_, _, rfl, h0, _, _, rfl, h1, _, _, rfl, h2, _, _, rfl, h3, _, _, rfl, h4, rfl⟩ := h
  obtain ⟨x0, rfl, k0⟩ := of_I h0
  obtain ⟨x1, rfl, k1⟩ := of_I h1
  obtain ⟨x2, rfl, k2⟩ := of_I h2
  obtain ⟨x3, rfl, k3⟩ := of_I h3
  obtain ⟨x4, rfl, k4⟩ := of_I h4
  exact ⟨⟨x0, x1, x2, x3, x4⟩, rfl, ⟨k0, k1, k2, k3, k4⟩⟩
abbrev vPageMeta (x : PageMeta) : V := .agg (mapO .d (rPageMeta x))

structure Found where
  Phys : Int
  Meta : PageMeta
def rFound (x : Found) : List D := [dI x.Phys, dI x.Meta.Kind, dI x.Meta.Logical, dI x.Meta.Seq, dI x.Meta.First, dI x.Meta.Count]
def okFound (x : Found) : Prop := i64r x.Phys ∧ okPageMeta x.Meta
def totFound (x : Found) : Nat := 0
def tyFound : Ty := .struct [.int .i64, tyPageMeta]
theorem of_Found {ds : List D} (h : OkD tyFound ds) : ∃ x, ds = rFound x ∧ okFound x := by
  simp only [tyFound, OkD_struct, OkS] at h
  obtain ⟨_, _, rfl, h0, _, _, rfl, h1, rfl⟩ := h
  obtain ⟨x0, rfl, k0⟩ := of_I h0
  obtain ⟨x1, rfl, k1⟩ := of_PageMeta h1
  exact ⟨⟨x0, x1⟩, rfl, ⟨k0, k1⟩⟩
abbrev vFound (x : Found) : V := .agg (mapO .d (rFound x))

structure Checkpoint where
  Seq : Int
  Map : PageMap
def rCheckpoint (x : Checkpoint) : List D := [dI x.Seq, dI x.Map.Blocks, dI x.Map.Pages, .arr (x.Map.Map.map rI), .arr (x.Map.Trimmed.map rB)]
def okCheckpoint (x : Checkpoint) : Prop := i64r x.Seq ∧ okPageMap x.Map
def totCheckpoint (x : Checkpoint) : Nat := totPageMap x.Map
def tyCheckpoint : Ty := .struct [.int .i64, tyPageMap]
theorem of_Checkpoint {ds : List D} (h : OkD tyCheckpoint ds) : ∃ x, ds = rCheckpoint x ∧ okCheckpoint x := by
  simp only [tyCheckpoint, OkD_struct, OkS] at h
  obtain ⟨_, _, rfl, h0, _, _, rfl, h1, rfl⟩ := h
  obtain ⟨x0, rfl, k0⟩ := of_I h0
  obtain ⟨x1, rfl, k1⟩ := of_PageMap h1
  exact ⟨⟨x0, x1⟩, rfl, ⟨k0, k1⟩⟩
abbrev vCheckpoint (x : Checkpoint) : V := .agg (mapO .d (rCheckpoint x))

structure BlockStat where
  Live : Int
  Age : Int
  Usable : Bool
def rBlockStat (x : BlockStat) : List D := [dI x.Live, dI x.Age, dB x.Usable]
def okBlockStat (x : BlockStat) : Prop := i64r x.Live ∧ i64r x.Age
def totBlockStat (x : BlockStat) : Nat := 0
def tyBlockStat : Ty := .struct [.int .i64, .int .i64, .bool]
theorem of_BlockStat {ds : List D} (h : OkD tyBlockStat ds) : ∃ x, ds = rBlockStat x ∧ okBlockStat x := by
  simp only [tyBlockStat, OkD_struct, OkS] at h
  obtain ⟨_, _, rfl, h0, _, _, rfl, h1, _, _, rfl, h2, rfl⟩ := h
  obtain ⟨x0, rfl, k0⟩ := of_I h0
  obtain ⟨x1, rfl, k1⟩ := of_I h1
  obtain ⟨x2, rfl, k2⟩ := of_B h2
  exact ⟨⟨x0, x1, x2⟩, rfl, ⟨k0, k1⟩⟩
abbrev vBlockStat (x : BlockStat) : V := .agg (mapO .d (rBlockStat x))

structure Wear where
  Erases : List Int
  Bad : List Bool
  Content : List Int
  Bound : Int
def rWear (x : Wear) : List D := [.arr (x.Erases.map rI), .arr (x.Bad.map rB), .arr (x.Content.map rI), dI x.Bound]
def okWear (x : Wear) : Prop := (okL i64r) x.Erases ∧ (okL okB) x.Bad ∧ (okL i64r) x.Content ∧ i64r x.Bound
def totWear (x : Wear) : Nat := List.length x.Erases + List.length x.Bad + List.length x.Content
def tyWear : Ty := .struct [.slice (.int .i64), .slice .bool, .slice (.int .i64), .int .i64]
theorem of_Wear {ds : List D} (h : OkD tyWear ds) : ∃ x, ds = rWear x ∧ okWear x := by
  simp only [tyWear, OkD_struct, OkS] at h
  obtain ⟨_, _, rfl, h0, _, _, rfl, h1, _, _, rfl, h2, _, _, rfl, h3, rfl⟩ := h
  obtain ⟨x0, rfl, k0⟩ := (of_L (f := rI) (ok := i64r) (fun _ h => of_I h)) h0
  obtain ⟨x1, rfl, k1⟩ := (of_L (f := rB) (ok := okB) (fun _ h => of_B h)) h1
  obtain ⟨x2, rfl, k2⟩ := (of_L (f := rI) (ok := i64r) (fun _ h => of_I h)) h2
  obtain ⟨x3, rfl, k3⟩ := of_I h3
  exact ⟨⟨x0, x1, x2, x3⟩, rfl, ⟨k0, k1, k2, k3⟩⟩
abbrev vWear (x : Wear) : V := .agg (mapO .d (rWear x))

structure Heat where
  Counts : List Int
  Writes : Int
def rHeat (x : Heat) : List D := [.arr (x.Counts.map rI), dI x.Writes]
def okHeat (x : Heat) : Prop := (okL i64r) x.Counts ∧ i64r x.Writes
def totHeat (x : Heat) : Nat := List.length x.Counts
def tyHeat : Ty := .struct [.slice (.int .i64), .int .i64]
theorem of_Heat {ds : List D} (h : OkD tyHeat ds) : ∃ x, ds = rHeat x ∧ okHeat x := by
  simp only [tyHeat, OkD_struct, OkS] at h
  obtain ⟨_, _, rfl, h0, _, _, rfl, h1, rfl⟩ := h
  obtain ⟨x0, rfl, k0⟩ := (of_L (f := rI) (ok := i64r) (fun _ h => of_I h)) h0
  obtain ⟨x1, rfl, k1⟩ := of_I h1
  exact ⟨⟨x0, x1⟩, rfl, ⟨k0, k1⟩⟩
abbrev vHeat (x : Heat) : V := .agg (mapO .d (rHeat x))

structure FTL where
  Flash : Flash
  Map : PageMap
  Heat : Heat
  Seq : Int
  Open : List Int
  Last : List Int
  Bound : Int
  Policy : Int
def rFTL (x : FTL) : List D := [dI x.Flash.Geo.Dies, dI x.Flash.Geo.Blocks, dI x.Flash.Geo.Pages, .arr (x.Flash.Blocks.map rBlock), dI x.Flash.Fuse, dI x.Flash.Keep, dB x.Flash.Off, dI x.Flash.Ops, dI x.Map.Blocks, dI x.Map.Pages, .arr (x.Map.Map.map rI), .arr (x.Map.Trimmed.map rB), .arr (x.Heat.Counts.map rI), dI x.Heat.Writes, dI x.Seq, .arr (x.Open.map rI), .arr (x.Last.map rI), dI x.Bound, dI x.Policy]
def okFTL (x : FTL) : Prop := okFlash x.Flash ∧ okPageMap x.Map ∧ okHeat x.Heat ∧ i64r x.Seq ∧ (okL i64r) x.Open ∧ (okL i64r) x.Last ∧ i64r x.Bound ∧ i64r x.Policy
def totFTL (x : FTL) : Nat := totFlash x.Flash + totPageMap x.Map + totHeat x.Heat + List.length x.Open + List.length x.Last
def tyFTL : Ty := .struct [tyFlash, tyPageMap, tyHeat, .int .i64, .slice (.int .i64), .slice (.int .i64), .int .i64, .int .i64]
theorem of_FTL {ds : List D} (h : OkD tyFTL ds) : ∃ x, ds = rFTL x ∧ okFTL x := by
  simp only [tyFTL, OkD_struct, OkS] at h
  obtain ⟨_, _, rfl, h0, _, _, rfl, h1, _, _, rfl, h2, _, _, rfl, h3, _, _, rfl, h4, _, _, rfl, h5, _, _, rfl, h6, _, _, rfl, h7, rfl⟩ := h
  obtain ⟨x0, rfl, k0⟩ := of_Flash h0
  obtain ⟨x1, rfl, k1⟩ := of_PageMap h1
  obtain ⟨x2, rfl, k2⟩ := of_Heat h2
  obtain ⟨x3, rfl, k3⟩ := of_I h3
  obtain ⟨x4, rfl, k4⟩ := (of_L (f := rI) (ok := i64r) (fun _ h => of_I h)) h4
  obtain ⟨x5, rfl, k5⟩ := (of_L (f := rI) (ok := i64r) (fun _ h => of_I h)) h5
  obtain ⟨x6, rfl, k6⟩ := of_I h6
  obtain ⟨x7, rfl, k7⟩ := of_I h7
  exact ⟨⟨x0, x1, x2, x3, x4, x5, x6, x7⟩, rfl, ⟨k0, k1, k2, k3, k4, k5, k6, k7⟩⟩
abbrev vFTL (x : FTL) : V := .agg (mapO .d (rFTL x))

structure FtlAct where
  Kind : Int
  Lpns : List Int
  Data : List ByteArray
def rFtlAct (x : FtlAct) : List D := [dI x.Kind, .arr (x.Lpns.map rI), .arr (x.Data.map rS)]
def okFtlAct (x : FtlAct) : Prop := i64r x.Kind ∧ (okL i64r) x.Lpns ∧ (okL okS) x.Data
def totFtlAct (x : FtlAct) : Nat := List.length x.Lpns + (totL ByteArray.size) x.Data
def tyFtlAct : Ty := .struct [.int .i64, .slice (.int .i64), .slice .str]
theorem of_FtlAct {ds : List D} (h : OkD tyFtlAct ds) : ∃ x, ds = rFtlAct x ∧ okFtlAct x := by
  simp only [tyFtlAct, OkD_struct, OkS] at h
  obtain ⟨_, _, rfl, h0, _, _, rfl, h1, _, _, rfl, h2, rfl⟩ := h
  obtain ⟨x0, rfl, k0⟩ := of_I h0
  obtain ⟨x1, rfl, k1⟩ := (of_L (f := rI) (ok := i64r) (fun _ h => of_I h)) h1
  obtain ⟨x2, rfl, k2⟩ := (of_L (f := rS) (ok := okS) (fun _ h => of_S h)) h2
  exact ⟨⟨x0, x1, x2⟩, rfl, ⟨k0, k1, k2⟩⟩
abbrev vFtlAct (x : FtlAct) : V := .agg (mapO .d (rFtlAct x))

structure Cells where
  Charge : List Int
def rCells (x : Cells) : List D := [.arr (x.Charge.map rI)]
def okCells (x : Cells) : Prop := (okL i64r) x.Charge
def totCells (x : Cells) : Nat := List.length x.Charge
def tyCells : Ty := .struct [.slice (.int .i64)]
theorem of_Cells {ds : List D} (h : OkD tyCells ds) : ∃ x, ds = rCells x ∧ okCells x := by
  simp only [tyCells, OkD_struct, OkS] at h
  obtain ⟨_, _, rfl, h0, rfl⟩ := h
  obtain ⟨x0, rfl, k0⟩ := (of_L (f := rI) (ok := i64r) (fun _ h => of_I h)) h0
  exact ⟨⟨x0⟩, rfl, k0⟩
abbrev vCells (x : Cells) : V := .agg (mapO .d (rCells x))

structure Wipe where
  Blocks : List Int
  Done : Int
def rWipe (x : Wipe) : List D := [.arr (x.Blocks.map rI), dI x.Done]
def okWipe (x : Wipe) : Prop := (okL i64r) x.Blocks ∧ i64r x.Done
def totWipe (x : Wipe) : Nat := List.length x.Blocks
def tyWipe : Ty := .struct [.slice (.int .i64), .int .i64]
theorem of_Wipe {ds : List D} (h : OkD tyWipe ds) : ∃ x, ds = rWipe x ∧ okWipe x := by
  simp only [tyWipe, OkD_struct, OkS] at h
  obtain ⟨_, _, rfl, h0, _, _, rfl, h1, rfl⟩ := h
  obtain ⟨x0, rfl, k0⟩ := (of_L (f := rI) (ok := i64r) (fun _ h => of_I h)) h0
  obtain ⟨x1, rfl, k1⟩ := of_I h1
  exact ⟨⟨x0, x1⟩, rfl, ⟨k0, k1⟩⟩
abbrev vWipe (x : Wipe) : V := .agg (mapO .d (rWipe x))

structure Header where
  Kind : Int
  Zone : Int
  Row : Int
  Unit : Int
  Index : Int
  Size : Int
def rHeader (x : Header) : List D := [dI x.Kind, dI x.Zone, dI x.Row, dI x.Unit, dI x.Index, dI x.Size]
def okHeader (x : Header) : Prop := i64r x.Kind ∧ i64r x.Zone ∧ i64r x.Row ∧ i64r x.Unit ∧ i64r x.Index ∧ i64r x.Size
def totHeader (x : Header) : Nat := 0
def tyHeader : Ty := .struct [.int .i64, .int .i64, .int .i64, .int .i64, .int .i64, .int .i64]
theorem of_Header {ds : List D} (h : OkD tyHeader ds) : ∃ x, ds = rHeader x ∧ okHeader x := by
  simp only [tyHeader, OkD_struct, OkS] at h
  obtain ⟨_, _, rfl, h0, _, _, rfl, h1, _, _, rfl, h2, _, _, rfl, h3, _, _, rfl, h4, _, _, rfl, h5, rfl⟩ := h
  obtain ⟨x0, rfl, k0⟩ := of_I h0
  obtain ⟨x1, rfl, k1⟩ := of_I h1
  obtain ⟨x2, rfl, k2⟩ := of_I h2
  obtain ⟨x3, rfl, k3⟩ := of_I h3
  obtain ⟨x4, rfl, k4⟩ := of_I h4
  obtain ⟨x5, rfl, k5⟩ := of_I h5
  exact ⟨⟨x0, x1, x2, x3, x4, x5⟩, rfl, ⟨k0, k1, k2, k3, k4, k5⟩⟩
abbrev vHeader (x : Header) : V := .agg (mapO .d (rHeader x))

structure Zone where
  State : Int
  Blocks : List Int
  Written : Int
  Synced : Int
  Rows : List Int
  Buffer : List ByteArray
def rZone (x : Zone) : List D := [dI x.State, .arr (x.Blocks.map rI), dI x.Written, dI x.Synced, .arr (x.Rows.map rI), .arr (x.Buffer.map rS)]
def okZone (x : Zone) : Prop := i64r x.State ∧ (okL i64r) x.Blocks ∧ i64r x.Written ∧ i64r x.Synced ∧ (okL i64r) x.Rows ∧ (okL okS) x.Buffer
def totZone (x : Zone) : Nat := List.length x.Blocks + List.length x.Rows + (totL ByteArray.size) x.Buffer
def tyZone : Ty := .struct [.int .i64, .slice (.int .i64), .int .i64, .int .i64, .slice (.int .i64), .slice .str]
theorem of_Zone {ds : List D} (h : OkD tyZone ds) : ∃ x, ds = rZone x ∧ okZone x := by
  simp only [tyZone, OkD_struct, OkS] at h
  obtain ⟨_, _, rfl, h0, _, _, rfl, h1, _, _, rfl, h2, _, _, rfl, h3, _, _, rfl, h4, _, _, rfl, h5, rfl⟩ := h
  obtain ⟨x0, rfl, k0⟩ := of_I h0
  obtain ⟨x1, rfl, k1⟩ := (of_L (f := rI) (ok := i64r) (fun _ h => of_I h)) h1
  obtain ⟨x2, rfl, k2⟩ := of_I h2
  obtain ⟨x3, rfl, k3⟩ := of_I h3
  obtain ⟨x4, rfl, k4⟩ := (of_L (f := rI) (ok := i64r) (fun _ h => of_I h)) h4
  obtain ⟨x5, rfl, k5⟩ := (of_L (f := rS) (ok := okS) (fun _ h => of_S h)) h5
  exact ⟨⟨x0, x1, x2, x3, x4, x5⟩, rfl, ⟨k0, k1, k2, k3, k4, k5⟩⟩
abbrev vZone (x : Zone) : V := .agg (mapO .d (rZone x))

structure Device where
  Flash : Flash
  Zones : List Zone
def rDevice (x : Device) : List D := [dI x.Flash.Geo.Dies, dI x.Flash.Geo.Blocks, dI x.Flash.Geo.Pages, .arr (x.Flash.Blocks.map rBlock), dI x.Flash.Fuse, dI x.Flash.Keep, dB x.Flash.Off, dI x.Flash.Ops, .arr (x.Zones.map rZone)]
def okDevice (x : Device) : Prop := okFlash x.Flash ∧ (okL okZone) x.Zones
def totDevice (x : Device) : Nat := totFlash x.Flash + (totL totZone) x.Zones
def tyDevice : Ty := .struct [tyFlash, .slice tyZone]
theorem of_Device {ds : List D} (h : OkD tyDevice ds) : ∃ x, ds = rDevice x ∧ okDevice x := by
  simp only [tyDevice, OkD_struct, OkS] at h
  obtain ⟨_, _, rfl, h0, _, _, rfl, h1, rfl⟩ := h
  obtain ⟨x0, rfl, k0⟩ := of_Flash h0
  obtain ⟨x1, rfl, k1⟩ := (of_L (f := rZone) (ok := okZone) (fun _ h => of_Zone h)) h1
  exact ⟨⟨x0, x1⟩, rfl, ⟨k0, k1⟩⟩
abbrev vDevice (x : Device) : V := .agg (mapO .d (rDevice x))

structure Record where
  Key : ByteArray
  Seq : Int
  Kind : Int
  Value : ByteArray
  End : ByteArray
def rRecord (x : Record) : List D := [dS x.Key, dI x.Seq, dI x.Kind, dS x.Value, dS x.End]
def okRecord (x : Record) : Prop := okS x.Key ∧ i64r x.Seq ∧ i64r x.Kind ∧ okS x.Value ∧ okS x.End
def totRecord (x : Record) : Nat := ByteArray.size x.Key + ByteArray.size x.Value + ByteArray.size x.End
def tyRecord : Ty := .struct [.str, .int .i64, .int .i64, .str, .str]
theorem of_Record {ds : List D} (h : OkD tyRecord ds) : ∃ x, ds = rRecord x ∧ okRecord x := by
  simp only [tyRecord, OkD_struct, OkS] at h
  obtain ⟨_, _, rfl, h0, _, _, rfl, h1, _, _, rfl, h2, _, _, rfl, h3, _, _, rfl, h4, rfl⟩ := h
  obtain ⟨x0, rfl, k0⟩ := of_S h0
  obtain ⟨x1, rfl, k1⟩ := of_I h1
  obtain ⟨x2, rfl, k2⟩ := of_I h2
  obtain ⟨x3, rfl, k3⟩ := of_S h3
  obtain ⟨x4, rfl, k4⟩ := of_S h4
  exact ⟨⟨x0, x1, x2, x3, x4⟩, rfl, ⟨k0, k1, k2, k3, k4⟩⟩
abbrev vRecord (x : Record) : V := .agg (mapO .d (rRecord x))

structure LogFragment where
  Kind : Int
  First : Int
  Index : Int
  Payload : ByteArray
def rLogFragment (x : LogFragment) : List D := [dI x.Kind, dI x.First, dI x.Index, dS x.Payload]
def okLogFragment (x : LogFragment) : Prop := i64r x.Kind ∧ i64r x.First ∧ i64r x.Index ∧ okS x.Payload
def totLogFragment (x : LogFragment) : Nat := ByteArray.size x.Payload
def tyLogFragment : Ty := .struct [.int .i64, .int .i64, .int .i64, .str]
theorem of_LogFragment {ds : List D} (h : OkD tyLogFragment ds) : ∃ x, ds = rLogFragment x ∧ okLogFragment x := by
  simp only [tyLogFragment, OkD_struct, OkS] at h
  obtain ⟨_, _, rfl, h0, _, _, rfl, h1, _, _, rfl, h2, _, _, rfl, h3, rfl⟩ := h
  obtain ⟨x0, rfl, k0⟩ := of_I h0
  obtain ⟨x1, rfl, k1⟩ := of_I h1
  obtain ⟨x2, rfl, k2⟩ := of_I h2
  obtain ⟨x3, rfl, k3⟩ := of_S h3
  exact ⟨⟨x0, x1, x2, x3⟩, rfl, ⟨k0, k1, k2, k3⟩⟩
abbrev vLogFragment (x : LogFragment) : V := .agg (mapO .d (rLogFragment x))

structure Fragment where
  Low : ByteArray
  End : ByteArray
  Seqs : List Int
def rFragment (x : Fragment) : List D := [dS x.Low, dS x.End, .arr (x.Seqs.map rI)]
def okFragment (x : Fragment) : Prop := okS x.Low ∧ okS x.End ∧ (okL i64r) x.Seqs
def totFragment (x : Fragment) : Nat := ByteArray.size x.Low + ByteArray.size x.End + List.length x.Seqs
def tyFragment : Ty := .struct [.str, .str, .slice (.int .i64)]
theorem of_Fragment {ds : List D} (h : OkD tyFragment ds) : ∃ x, ds = rFragment x ∧ okFragment x := by
  simp only [tyFragment, OkD_struct, OkS] at h
  obtain ⟨_, _, rfl, h0, _, _, rfl, h1, _, _, rfl, h2, rfl⟩ := h
  obtain ⟨x0, rfl, k0⟩ := of_S h0
  obtain ⟨x1, rfl, k1⟩ := of_S h1
  obtain ⟨x2, rfl, k2⟩ := (of_L (f := rI) (ok := i64r) (fun _ h => of_I h)) h2
  exact ⟨⟨x0, x1, x2⟩, rfl, ⟨k0, k1, k2⟩⟩
abbrev vFragment (x : Fragment) : V := .agg (mapO .d (rFragment x))

structure Pair where
  Key : ByteArray
  Value : ByteArray
def rPair (x : Pair) : List D := [dS x.Key, dS x.Value]
def okPair (x : Pair) : Prop := okS x.Key ∧ okS x.Value
def totPair (x : Pair) : Nat := ByteArray.size x.Key + ByteArray.size x.Value
def tyPair : Ty := .struct [.str, .str]
theorem of_Pair {ds : List D} (h : OkD tyPair ds) : ∃ x, ds = rPair x ∧ okPair x := by
  simp only [tyPair, OkD_struct, OkS] at h
  obtain ⟨_, _, rfl, h0, _, _, rfl, h1, rfl⟩ := h
  obtain ⟨x0, rfl, k0⟩ := of_S h0
  obtain ⟨x1, rfl, k1⟩ := of_S h1
  exact ⟨⟨x0, x1⟩, rfl, ⟨k0, k1⟩⟩
abbrev vPair (x : Pair) : V := .agg (mapO .d (rPair x))

structure TableRef where
  Id : Int
  Level : Int
  Zone : Int
  Page : Int
  Pages : Int
  Low : ByteArray
  High : ByteArray
  First : Int
  Last : Int
  Records : Int
def rTableRef (x : TableRef) : List D := [dI x.Id, dI x.Level, dI x.Zone, dI x.Page, dI x.Pages, dS x.Low, dS x.High, dI x.First, dI x.Last, dI x.Records]
def okTableRef (x : TableRef) : Prop := i64r x.Id ∧ i64r x.Level ∧ i64r x.Zone ∧ i64r x.Page ∧ i64r x.Pages ∧ okS x.Low ∧ okS x.High ∧ i64r x.First ∧ i64r x.Last ∧ i64r x.Records
def totTableRef (x : TableRef) : Nat := ByteArray.size x.Low + ByteArray.size x.High
def tyTableRef : Ty := .struct [.int .i64, .int .i64, .int .i64, .int .i64, .int .i64, .str, .str, .int .i64, .int .i64, .int .i64]
theorem of_TableRef {ds : List D} (h : OkD tyTableRef ds) : ∃ x, ds = rTableRef x ∧ okTableRef x := by
  simp only [tyTableRef, OkD_struct, OkS] at h
  obtain ⟨_, _, rfl, h0, _, _, rfl, h1, _, _, rfl, h2, _, _, rfl, h3, _, _, rfl, h4, _, _, rfl, h5, _, _, rfl, h6, _, _, rfl, h7, _, _, rfl, h8, _, _, rfl, h9, rfl⟩ := h
  obtain ⟨x0, rfl, k0⟩ := of_I h0
  obtain ⟨x1, rfl, k1⟩ := of_I h1
  obtain ⟨x2, rfl, k2⟩ := of_I h2
  obtain ⟨x3, rfl, k3⟩ := of_I h3
  obtain ⟨x4, rfl, k4⟩ := of_I h4
  obtain ⟨x5, rfl, k5⟩ := of_S h5
  obtain ⟨x6, rfl, k6⟩ := of_S h6
  obtain ⟨x7, rfl, k7⟩ := of_I h7
  obtain ⟨x8, rfl, k8⟩ := of_I h8
  obtain ⟨x9, rfl, k9⟩ := of_I h9
  exact ⟨⟨x0, x1, x2, x3, x4, x5, x6, x7, x8, x9⟩, rfl, ⟨k0, k1, k2, k3, k4, k5, k6, k7, k8, k9⟩⟩
abbrev vTableRef (x : TableRef) : V := .agg (mapO .d (rTableRef x))

structure Version where
  NextId : Int
  LogZone : Int
  LogSeq : Int
  Tables : List TableRef
def rVersion (x : Version) : List D := [dI x.NextId, dI x.LogZone, dI x.LogSeq, .arr (x.Tables.map rTableRef)]
def okVersion (x : Version) : Prop := i64r x.NextId ∧ i64r x.LogZone ∧ i64r x.LogSeq ∧ (okL okTableRef) x.Tables
def totVersion (x : Version) : Nat := (totL totTableRef) x.Tables
def tyVersion : Ty := .struct [.int .i64, .int .i64, .int .i64, .slice tyTableRef]
theorem of_Version {ds : List D} (h : OkD tyVersion ds) : ∃ x, ds = rVersion x ∧ okVersion x := by
  simp only [tyVersion, OkD_struct, OkS] at h
  obtain ⟨_, _, rfl, h0, _, _, rfl, h1, _, _, rfl, h2, _, _, rfl, h3, rfl⟩ := h
  obtain ⟨x0, rfl, k0⟩ := of_I h0
  obtain ⟨x1, rfl, k1⟩ := of_I h1
  obtain ⟨x2, rfl, k2⟩ := of_I h2
  obtain ⟨x3, rfl, k3⟩ := (of_L (f := rTableRef) (ok := okTableRef) (fun _ h => of_TableRef h)) h3
  exact ⟨⟨x0, x1, x2, x3⟩, rfl, ⟨k0, k1, k2, k3⟩⟩
abbrev vVersion (x : Version) : V := .agg (mapO .d (rVersion x))

structure Edit where
  LogZone : Int
  LogSeq : Int
  Remove : List Int
  Add : List TableRef
def rEdit (x : Edit) : List D := [dI x.LogZone, dI x.LogSeq, .arr (x.Remove.map rI), .arr (x.Add.map rTableRef)]
def okEdit (x : Edit) : Prop := i64r x.LogZone ∧ i64r x.LogSeq ∧ (okL i64r) x.Remove ∧ (okL okTableRef) x.Add
def totEdit (x : Edit) : Nat := List.length x.Remove + (totL totTableRef) x.Add
def tyEdit : Ty := .struct [.int .i64, .int .i64, .slice (.int .i64), .slice tyTableRef]
theorem of_Edit {ds : List D} (h : OkD tyEdit ds) : ∃ x, ds = rEdit x ∧ okEdit x := by
  simp only [tyEdit, OkD_struct, OkS] at h
  obtain ⟨_, _, rfl, h0, _, _, rfl, h1, _, _, rfl, h2, _, _, rfl, h3, rfl⟩ := h
  obtain ⟨x0, rfl, k0⟩ := of_I h0
  obtain ⟨x1, rfl, k1⟩ := of_I h1
  obtain ⟨x2, rfl, k2⟩ := (of_L (f := rI) (ok := i64r) (fun _ h => of_I h)) h2
  obtain ⟨x3, rfl, k3⟩ := (of_L (f := rTableRef) (ok := okTableRef) (fun _ h => of_TableRef h)) h3
  exact ⟨⟨x0, x1, x2, x3⟩, rfl, ⟨k0, k1, k2, k3⟩⟩
abbrev vEdit (x : Edit) : V := .agg (mapO .d (rEdit x))

structure DB where
  Device : Device
  Version : Version
  Gen : Int
  Active : Int
  Mem : List Record
  Seq : Int
  Synced : Int
  Snapshots : List Int
def rDB (x : DB) : List D := [dI x.Device.Flash.Geo.Dies, dI x.Device.Flash.Geo.Blocks, dI x.Device.Flash.Geo.Pages, .arr (x.Device.Flash.Blocks.map rBlock), dI x.Device.Flash.Fuse, dI x.Device.Flash.Keep, dB x.Device.Flash.Off, dI x.Device.Flash.Ops, .arr (x.Device.Zones.map rZone), dI x.Version.NextId, dI x.Version.LogZone, dI x.Version.LogSeq, .arr (x.Version.Tables.map rTableRef), dI x.Gen, dI x.Active, .arr (x.Mem.map rRecord), dI x.Seq, dI x.Synced, .arr (x.Snapshots.map rI)]
def okDB (x : DB) : Prop := okDevice x.Device ∧ okVersion x.Version ∧ i64r x.Gen ∧ i64r x.Active ∧ (okL okRecord) x.Mem ∧ i64r x.Seq ∧ i64r x.Synced ∧ (okL i64r) x.Snapshots
def totDB (x : DB) : Nat := totDevice x.Device + totVersion x.Version + (totL totRecord) x.Mem + List.length x.Snapshots
def tyDB : Ty := .struct [tyDevice, tyVersion, .int .i64, .int .i64, .slice tyRecord, .int .i64, .int .i64, .slice (.int .i64)]
theorem of_DB {ds : List D} (h : OkD tyDB ds) : ∃ x, ds = rDB x ∧ okDB x := by
  simp only [tyDB, OkD_struct, OkS] at h
  obtain ⟨_, _, rfl, h0, _, _, rfl, h1, _, _, rfl, h2, _, _, rfl, h3, _, _, rfl, h4, _, _, rfl, h5, _, _, rfl, h6, _, _, rfl, h7, rfl⟩ := h
  obtain ⟨x0, rfl, k0⟩ := of_Device h0
  obtain ⟨x1, rfl, k1⟩ := of_Version h1
  obtain ⟨x2, rfl, k2⟩ := of_I h2
  obtain ⟨x3, rfl, k3⟩ := of_I h3
  obtain ⟨x4, rfl, k4⟩ := (of_L (f := rRecord) (ok := okRecord) (fun _ h => of_Record h)) h4
  obtain ⟨x5, rfl, k5⟩ := of_I h5
  obtain ⟨x6, rfl, k6⟩ := of_I h6
  obtain ⟨x7, rfl, k7⟩ := (of_L (f := rI) (ok := i64r) (fun _ h => of_I h)) h7
  exact ⟨⟨x0, x1, x2, x3, x4, x5, x6, x7⟩, rfl, ⟨k0, k1, k2, k3, k4, k5, k6, k7⟩⟩
abbrev vDB (x : DB) : V := .agg (mapO .d (rDB x))

structure DbAct where
  Kind : Int
  Batch : List Record
  Seq : Int
def rDbAct (x : DbAct) : List D := [dI x.Kind, .arr (x.Batch.map rRecord), dI x.Seq]
def okDbAct (x : DbAct) : Prop := i64r x.Kind ∧ (okL okRecord) x.Batch ∧ i64r x.Seq
def totDbAct (x : DbAct) : Nat := (totL totRecord) x.Batch
def tyDbAct : Ty := .struct [.int .i64, .slice tyRecord, .int .i64]
theorem of_DbAct {ds : List D} (h : OkD tyDbAct ds) : ∃ x, ds = rDbAct x ∧ okDbAct x := by
  simp only [tyDbAct, OkD_struct, OkS] at h
  obtain ⟨_, _, rfl, h0, _, _, rfl, h1, _, _, rfl, h2, rfl⟩ := h
  obtain ⟨x0, rfl, k0⟩ := of_I h0
  obtain ⟨x1, rfl, k1⟩ := (of_L (f := rRecord) (ok := okRecord) (fun _ h => of_Record h)) h1
  obtain ⟨x2, rfl, k2⟩ := of_I h2
  exact ⟨⟨x0, x1, x2⟩, rfl, ⟨k0, k1, k2⟩⟩
abbrev vDbAct (x : DbAct) : V := .agg (mapO .d (rDbAct x))

structure Trial where
  Geo : Geometry
  Zones : Int
  Acts : List DbAct
def rTrial (x : Trial) : List D := [dI x.Geo.Dies, dI x.Geo.Blocks, dI x.Geo.Pages, dI x.Zones, .arr (x.Acts.map rDbAct)]
def okTrial (x : Trial) : Prop := okGeometry x.Geo ∧ i64r x.Zones ∧ (okL okDbAct) x.Acts
def totTrial (x : Trial) : Nat := (totL totDbAct) x.Acts
def tyTrial : Ty := .struct [tyGeometry, .int .i64, .slice tyDbAct]
theorem of_Trial {ds : List D} (h : OkD tyTrial ds) : ∃ x, ds = rTrial x ∧ okTrial x := by
  simp only [tyTrial, OkD_struct, OkS] at h
  obtain ⟨_, _, rfl, h0, _, _, rfl, h1, _, _, rfl, h2, rfl⟩ := h
  obtain ⟨x0, rfl, k0⟩ := of_Geometry h0
  obtain ⟨x1, rfl, k1⟩ := of_I h1
  obtain ⟨x2, rfl, k2⟩ := (of_L (f := rDbAct) (ok := okDbAct) (fun _ h => of_DbAct h)) h2
  exact ⟨⟨x0, x1, x2⟩, rfl, ⟨k0, k1, k2⟩⟩
abbrev vTrial (x : Trial) : V := .agg (mapO .d (rTrial x))

structure Verdict where
  Fuse : Int
  Keep : Int
  Cut : Bool
  Durable : Int
  Started : Int
  Prefix : Int
  Good : Bool
def rVerdict (x : Verdict) : List D := [dI x.Fuse, dI x.Keep, dB x.Cut, dI x.Durable, dI x.Started, dI x.Prefix, dB x.Good]
def okVerdict (x : Verdict) : Prop := i64r x.Fuse ∧ i64r x.Keep ∧ i64r x.Durable ∧ i64r x.Started ∧ i64r x.Prefix
def totVerdict (x : Verdict) : Nat := 0
def tyVerdict : Ty := .struct [.int .i64, .int .i64, .bool, .int .i64, .int .i64, .int .i64, .bool]
theorem of_Verdict {ds : List D} (h : OkD tyVerdict ds) : ∃ x, ds = rVerdict x ∧ okVerdict x := by
  simp only [tyVerdict, OkD_struct, OkS] at h
  obtain ⟨_, _, rfl, h0, _, _, rfl, h1, _, _, rfl, h2, _, _, rfl, h3, _, _, rfl, h4, _, _, rfl, h5, _, _, rfl, h6, rfl⟩ := h
  obtain ⟨x0, rfl, k0⟩ := of_I h0
  obtain ⟨x1, rfl, k1⟩ := of_I h1
  obtain ⟨x2, rfl, k2⟩ := of_B h2
  obtain ⟨x3, rfl, k3⟩ := of_I h3
  obtain ⟨x4, rfl, k4⟩ := of_I h4
  obtain ⟨x5, rfl, k5⟩ := of_I h5
  obtain ⟨x6, rfl, k6⟩ := of_B h6
  exact ⟨⟨x0, x1, x2, x3, x4, x5, x6⟩, rfl, ⟨k0, k1, k3, k4, k5⟩⟩
abbrev vVerdict (x : Verdict) : V := .agg (mapO .d (rVerdict x))

end Go.Proofs.YtjnhclnnobejgaaE
